/-
  A part of the proof of QueryValues (the machine on named data, and the contracts of the functions that the law reaches): AmFn AmFn2 AmIce AmFn3 AmTab AmKit AmKit2 AmCt AmLs AmRead AmRead2 AmRead3.
-/
import Derived.OpenShut
import Derived.ChangeArms
import Derived.DataReads
import Derived.LaidHandle
import Derived.Test.YtholilpmihngaaaGreatDoorAmG
import Derived.Test.YtholilpmihngaaaGreatDoorAmF
set_option linter.all false
set_option linter.unusedVariables false
set_option linter.unusedSimpArgs false
set_option linter.unusedSectionVars false
namespace Go.AM
open Go

/-! ## What a function does, on data -/
inductive SK where
  | one (t : Ty)
  | agg (ts : List Ty)
  | con (f : FuncId)
abbrev Sig := List SK
def SK.len : SK → Nat
  | .one _ => 1
  | .agg ts => ts.length
  | .con _ => 0

def RepV (m : Env) : List Ty → List DV → List Value → Prop
  | [], ds, vs => ds = [] ∧ vs = []
  | t :: ts, ds, vs => ∃ d ds' v vs', ds = d :: ds' ∧ vs = v :: vs' ∧ Rep m t d v ∧ RepV m ts ds' vs'
def RepOne (m : Env) : SK → List DV → Value → Prop
  | .agg ts, ds, v => ∃ xs : Array Value, v = .agg xs ∧ RepV m ts ds xs.toList
  | .one t, ds, v => ∃ d, ds = [d] ∧ Rep m t d v
  | .con f, ds, v => ds = [] ∧ v = .func (.func f) #[] #[]
def RepArgs (m : Env) : Sig → List (List DV) → List Value → Prop
  | [], ds, vs => ds = [] ∧ vs = []
  | g :: sg, ds, vs => ∃ d ds' v vs', ds = d :: ds' ∧ vs = v :: vs' ∧ RepOne m g d v ∧ RepArgs m sg ds' vs'
def RepRes (m : Env) : Sig → List (List DV) → Value → Prop
  | [g], ds, v => ∃ d, ds = [d] ∧ RepOne m g d v
  | sg, ds, v => ∃ xs : Array Value, v = .tuple xs ∧ RepArgs m sg ds xs.toList

theorem RepV.emono {m m' : Env} (hE : ∀ b o, m.E b = some o → m'.E b = some o) : ∀ {ts : List Ty} {ds : List DV} {vs : List Value}, RepV m ts ds vs → RepV m' ts ds vs
  | [], ds, vs, h => h
  | t :: ts, ds, vs, h => by
    obtain ⟨d, ds', v, vs', e1, e2, h1, h2⟩ := h
    exact ⟨d, ds', v, vs', e1, e2, h1.emono hE, h2.emono hE⟩
theorem RepOne.emono {m m' : Env} (hE : ∀ b o, m.E b = some o → m'.E b = some o) {g : SK} {ds : List DV} {v : Value} (h : RepOne m g ds v) : RepOne m' g ds v := by
  cases g with
  | agg ts => obtain ⟨xs, e, h1⟩ := h; exact ⟨xs, e, h1.emono hE⟩
  | one t => obtain ⟨d, e2, h1⟩ := h; exact ⟨d, e2, h1.emono hE⟩
  | con f => exact h
theorem RepArgs.emono {m m' : Env} (hE : ∀ b o, m.E b = some o → m'.E b = some o) : ∀ {sg : Sig} {ds : List (List DV)} {vs : List Value}, RepArgs m sg ds vs → RepArgs m' sg ds vs
  | [], ds, vs, h => h
  | g :: sg, ds, vs, h => by
    obtain ⟨d, ds', v, vs', e1, e2, h1, h2⟩ := h
    exact ⟨d, ds', v, vs', e1, e2, h1.emono hE, h2.emono hE⟩

/-- Frozen blocks alone. -/
def envE (E : Nat → Option Obj) : Env := { R := ⟨fun _ => .bool false, fun _ _ => .bool false⟩, mu := fun _ => (0, 0), dom := fun _ => False, res := fun _ => False, E, F := fun _ => none, io := (default, #[]) }

structure Grows (E E' : Nat → Option Obj) (w w' : World) : Prop where
  le : ∀ b o, E b = some o → E' b = some o
  ok : ∀ b o, E' b = some o → w'.heap[b]? = some o ∧ (E b = some o ∨ w.heap.size ≤ b)
  old : ∀ b, b < w.heap.size → w'.heap[b]? = w.heap[b]?
  io : ioOf w' = ioOf w

def GlobOK (G : Nat → Option (List AV)) (E : Nat → Option Obj) : Prop := ∀ g cs, G g = some cs → VC (envE E) g 0 cs

/-- A FUNCTION's CONTRACT, on data: arguments' data in, results' data out; old memory is as it was. -/
def FnOK (P : Program) (G : Nat → Option (List AV)) (f : FuncId) (sg rs : Sig) (pre : List DV → Prop) (F : List DV → List (List DV)) : Prop :=
  HasBody P f ∧ ∀ (E : Nat → Option Obj) (ds : List (List DV)) (vs : Array Value) (w : World), (∀ b o, E b = some o → w.heap[b]? = some o) → RepArgs (envE E) sg ds vs.toList → pre ds.flatten → GlobOK G E →
    Calls P f vs w fun e w' => ∃ v E', e = .returned v ∧ Grows E E' w w' ∧ RepRes (envE E') rs (F ds.flatten) v

/-! ### A contract, for the machine -/
noncomputable def cellsSX : List Ty → List AV → Option (List SX)
  | [], [] => some []
  | t :: ts, a :: as => match asTy t a, cellsSX ts as with
    | some e, some es => some (e :: es)
    | _, _ => none
  | _, _ => none
noncomputable def oneSX : SK → AV → Option (List SX)
  | .agg ts, a => match aggOf a with
    | some cs => cellsSX ts cs
    | none => none
  | .one t, a => cellsSX [t] [a]
  | .con f, a => match a with
    | .sc (.func (.func g) b c) => match Nat.beq f g && Nat.beq b.size 0 && Nat.beq c.size 0 with
      | true => some []
      | false => none
    | _ => none
noncomputable def argsSX : Sig → List AV → Option (List (List SX))
  | [], [] => some []
  | g :: sg, a :: as => match oneSX g a, argsSX sg as with
    | some e, some es => some (e :: es)
    | _, _ => none
  | _, _ => none
noncomputable def tupOf : AV → Option (List AV)
  | .tup vs => some vs
  | .sc (.tuple vs) => some (vs.toList.map .sc)
  | _ => none
noncomputable def resSX : Sig → AV → Option (List (List SX))
  | [g], a => match oneSX g a with
    | some e => some [e]
    | none => none
  | sg, a => match tupOf a with
    | some as => argsSX sg as
    | none => none

section
variable {m : Env}
theorem cellsSX_spec : ∀ {ts : List Ty} {as : List AV} {es : List SX} {vs : List Value}, cellsSX ts as = some es → VL m as vs → RepV m ts (es.map (den m.R)) vs
  | [], [], es, vs, h, hv => by
    simp only [cellsSX, Option.some.injEq] at h
    simp only [VL] at hv
    subst h
    exact ⟨rfl, hv⟩
  | t :: ts, a :: as, es, vs, h, hv => by
    simp only [cellsSX] at h
    split at h
    · rename_i e es' h1 h2
      cases h
      simp only [VL] at hv
      obtain ⟨v, us, rfl, k1, k2⟩ := hv
      exact ⟨_, _, v, us, rfl, rfl, asTy_spec h1 k1, cellsSX_spec h2 k2⟩
    · cases h
  | [], _ :: _, _, _, h, _ => by simp [cellsSX] at h
  | _ :: _, [], _, _, h, _ => by simp [cellsSX] at h
theorem oneSX_spec {g : SK} {a : AV} {es : List SX} {v : Value} (h : oneSX g a = some es) (hv : V m a v) : RepOne m g (es.map (den m.R)) v := by
  cases g with
  | agg ts =>
    simp only [oneSX] at h
    split at h
    · rename_i cs hc
      obtain ⟨vs, rfl, hl⟩ := aggOf_spec hc hv
      exact ⟨vs, rfl, cellsSX_spec h hl⟩
    · cases h
  | one t =>
    simp only [oneSX] at h
    obtain ⟨d, ds', v', vs', e1, e2, h1, h2⟩ := cellsSX_spec (vs := [v]) h (by simp only [VL]; exact ⟨v, [], rfl, hv, rfl⟩)
    simp only [List.cons.injEq] at e2
    obtain ⟨rfl, rfl⟩ := e2
    obtain ⟨rfl, _⟩ := h2
    exact ⟨d, e1, h1⟩
  | con f =>
    simp only [oneSX] at h
    split at h
    · rename_i g b c
      split at h
      · rename_i hk
        cases h
        simp only [Bool.and_eq_true, Nat.beq_eq] at hk
        obtain ⟨⟨rfl, h1⟩, h2⟩ := hk
        simp only [V] at hv
        refine ⟨rfl, ?_⟩
        rw [hv, Array.eq_empty_of_size_eq_zero h1, Array.eq_empty_of_size_eq_zero h2]
      · cases h
    · cases h
theorem argsSX_spec : ∀ {sg : Sig} {as : List AV} {es : List (List SX)} {vs : List Value}, argsSX sg as = some es → VL m as vs → RepArgs m sg (es.map (·.map (den m.R))) vs
  | [], [], es, vs, h, hv => by
    simp only [argsSX, Option.some.injEq] at h
    simp only [VL] at hv
    subst h
    exact ⟨rfl, hv⟩
  | g :: sg, a :: as, es, vs, h, hv => by
    simp only [argsSX] at h
    split at h
    · rename_i e es' h1 h2
      cases h
      simp only [VL] at hv
      obtain ⟨v, us, rfl, k1, k2⟩ := hv
      exact ⟨_, _, v, us, rfl, rfl, oneSX_spec h1 k1, argsSX_spec h2 k2⟩
    · cases h
  | [], _ :: _, _, _, h, _ => by simp [argsSX] at h
  | _ :: _, [], _, _, h, _ => by simp [argsSX] at h
theorem resSX_spec {rs : Sig} {a : AV} {es : List (List SX)} {v : Value} (h : resSX rs a = some es) (hv : V m a v) : RepRes m rs (es.map (·.map (den m.R))) v := by
  unfold resSX at h
  split at h
  · rename_i g
    split at h
    · rename_i e he
      cases h
      exact ⟨_, rfl, oneSX_spec he hv⟩
    · cases h
  · rename_i hn
    split at h
    · rename_i as has
      have : ∃ xs : Array Value, v = .tuple xs ∧ VL m as xs.toList := by
        unfold tupOf at has
        split at has <;> cases has
        · simpa only [V] using hv
        · simp only [V] at hv
          exact ⟨_, hv, VL_sc m _⟩
      obtain ⟨xs, rfl, hl⟩ := this
      have h2 := argsSX_spec h hl
      unfold RepRes
      split
      · exact absurd rfl (hn _)
      · exact ⟨xs, rfl, h2⟩
    · cases h
end
end Go.AM
namespace Go.AM
open Go

/-! ### A contract out of a run -/
noncomputable def varsAV : Nat → List Ty → List AV
  | _, [] => []
  | i, t :: ts => .sy t (.v i) :: varsAV (Nat.succ i) ts
noncomputable def mkOne (i : Nat) : SK → AV
  | .agg ts => .agg (varsAV i ts)
  | .one t => .sy t (.v i)
  | .con f => .sc (.func (.func f) #[] #[])
noncomputable def mkArgs : Nat → Sig → List AV
  | _, [] => []
  | i, g :: sg => mkOne i g :: mkArgs (Nat.add i g.len) sg

/-- The base: given frozen blocks; all the rest is laid by. -/
def baseE (R : Rho) (E : Nat → Option Obj) (w : World) : Env := { R, mu := fun _ => (0, 0), dom := fun _ => False, res := fun _ => False, E, F := fun b => match E b with | some _ => none | none => w.heap[b]?, io := ioOf w }

theorem HR.baseE {R : Rho} {E : Nat → Option Obj} {w : World} (hE : ∀ b o, E b = some o → w.heap[b]? = some o) : HR (Go.AM.baseE R E w) heap0 w :=
  ⟨fun _ h => h.elim, by decide, fun _ h => h.elim, fun b x h => by
    simp only [Go.AM.baseE] at h ⊢
    split at h
    · cases h
    · rename_i e; exact e,
  hE, fun b x h => by
    simp only [Go.AM.baseE] at h
    split at h
    · cases h
    · exact h, fun id o h => by simp [heap0] at h, fun i j x y h => by simp [heap0] at h, rfl⟩

theorem varsAV_V {m : Env} {l : List DV} (hρ : ∀ i d, l[i]? = some d → m.R.ρ i = d) : ∀ {ts : List Ty} {ds : List DV} {vs : List Value} {i : Nat}, RepV m ts ds vs → (∀ j d, ds[j]? = some d → l[i + j]? = some d) → VL m (varsAV i ts) vs
  | [], ds, vs, i, h, _ => by
    simp only [varsAV, VL]
    exact h.2
  | t :: ts, ds, vs, i, h, hl => by
    obtain ⟨d, ds', v, vs', rfl, rfl, h1, h2⟩ := h
    simp only [varsAV, VL]
    refine ⟨v, vs', rfl, ?_, varsAV_V hρ h2 fun j d' hj => ?_⟩
    · simp only [V, den]
      rw [hρ i d (by simpa using hl 0 d rfl)]
      exact h1
    · have := hl (j + 1) d' (by simpa using hj)
      rw [show Nat.succ i + j = i + (j + 1) by omega]
      exact this

theorem RepV.length {m : Env} : ∀ {ts : List Ty} {ds : List DV} {vs : List Value}, RepV m ts ds vs → ds.length = ts.length
  | [], ds, vs, h => by rw [h.1]; rfl
  | t :: ts, ds, vs, h => by
    obtain ⟨d, ds', v, vs', rfl, rfl, h1, h2⟩ := h
    simp [h2.length]
theorem RepOne.length {m : Env} {g : SK} {ds : List DV} {v : Value} (h : RepOne m g ds v) : ds.length = g.len := by
  cases g with
  | agg ts => obtain ⟨xs, _, h1⟩ := h; exact h1.length
  | one t => obtain ⟨d, rfl, _⟩ := h; rfl
  | con f => rw [h.1]; rfl

theorem mkArgs_V {m : Env} {l : List DV} (hρ : ∀ i d, l[i]? = some d → m.R.ρ i = d) : ∀ {sg : Sig} {ds : List (List DV)} {vs : List Value} {i : Nat}, RepArgs m sg ds vs → (∀ j d, ds.flatten[j]? = some d → l[i + j]? = some d) → VL m (mkArgs i sg) vs
  | [], ds, vs, i, h, _ => by
    simp only [mkArgs, VL]
    exact h.2
  | g :: sg, ds, vs, i, h, hl => by
    obtain ⟨d, ds', v, vs', rfl, rfl, h1, h2⟩ := h
    have hlen := h1.length
    simp only [mkArgs, VL]
    refine ⟨v, vs', rfl, ?_, mkArgs_V hρ h2 fun j d' hj => ?_⟩
    · cases g with
      | agg ts =>
        obtain ⟨xs, rfl, h3⟩ := h1
        simp only [mkOne, V]
        refine ⟨xs, rfl, varsAV_V hρ h3 fun j d' hj => hl j d' ?_⟩
        rw [List.flatten_cons, List.getElem?_append_left (List.getElem?_eq_some_iff.1 hj).1]
        exact hj
      | one t =>
        obtain ⟨x, rfl, h3⟩ := h1
        simp only [mkOne, V, den]
        rw [hρ i x (by simpa using hl 0 x (by simp))]
        exact h3
      | con f =>
        simp only [mkOne, V]
        exact h1.2
    · have := hl (d.length + j) d' (by
        rw [List.flatten_cons, List.getElem?_append_right (by omega), Nat.add_sub_cancel_left]
        exact hj)
      rw [hlen] at this
      rw [show Nat.add i g.len + j = i + (g.len + j) by show i + g.len + j = _; omega]
      exact this

inductive Pln where
  | ask (e : SX) (t f : Pln)
  | know (e : SX) (b : Bool) (p : Pln)
  | done (r : List (List SX))
  | never

noncomputable def eqSXss : List (List SX) → List (List SX) → Bool
  | [], [] => true
  | x :: xs, y :: ys => eqSX.eqSXs x y && eqSXss xs ys
  | _, _ => false
theorem eqSXss_eq : ∀ {a b : List (List SX)}, eqSXss a b = true → a = b
  | [], [], _ => rfl
  | x :: xs, y :: ys, h => by
    simp only [eqSXss, Bool.and_eq_true] at h
    rw [eqSXs_eq h.1, eqSXss_eq h.2]
  | [], _ :: _, h => by simp [eqSXss] at h
  | _ :: _, [], h => by simp [eqSXss] at h

noncomputable def leafOK (rs : Sig) (o : Out) (r : List (List SX)) : Bool :=
  match o with
  | some (av, _) => match resSX rs av with
    | some x => eqSXss x r
    | none => false
  | none => false

noncomputable def checkPlan (rs : Sig) (run : List (SX × Bool) → Out) : List (SX × Bool) → Pln → Bool
  | facts, .ask e t f => checkPlan rs run ((e, true) :: facts) t && checkPlan rs run ((e, false) :: facts) f
  | facts, .know e b p => checkPlan rs run ((e, b) :: facts) p
  | facts, .done r => leafOK rs (run facts) r
  | _, .never => true

def goalPlan (R : Rho) (res : List (List DV)) : Pln → Prop
  | .ask e t f => (∃ b, den R e = .bool b) ∧ (den R e = .bool true → goalPlan R res t) ∧ (den R e = .bool false → goalPlan R res f)
  | .know e b p => den R e = .bool b ∧ goalPlan R res p
  | .done r => res = r.map (·.map (den R))
  | .never => False

theorem plan_leaf {rs : Sig} {run : List (SX × Bool) → Out} {R : Rho} {res : List (List DV)} : ∀ {p : Pln} {facts : List (SX × Bool)}, (∀ q ∈ facts, den R q.1 = .bool q.2) → checkPlan rs run facts p = true → goalPlan R res p →
    ∃ facts', (∀ q ∈ facts', den R q.1 = .bool q.2) ∧ ∃ av h r, run facts' = some (av, h) ∧ resSX rs av = some r ∧ res = r.map (·.map (den R))
  | .ask e t f, facts, hf, hc, hg => by
    simp only [checkPlan, Bool.and_eq_true] at hc
    obtain ⟨⟨b, hb⟩, h1, h2⟩ := hg
    cases b with
    | true => exact plan_leaf (facts := (e, true) :: facts) (fun q hq => by rcases List.mem_cons.1 hq with rfl | hq; exact hb; exact hf q hq) hc.1 (h1 hb)
    | false => exact plan_leaf (facts := (e, false) :: facts) (fun q hq => by rcases List.mem_cons.1 hq with rfl | hq; exact hb; exact hf q hq) hc.2 (h2 hb)
  | .know e b p, facts, hf, hc, hg => by
    exact plan_leaf (facts := (e, b) :: facts) (fun q hq => by rcases List.mem_cons.1 hq with rfl | hq; exact hg.1; exact hf q hq) hc hg.2
  | .done r, facts, hf, hc, hg => by
    simp only [checkPlan, leafOK] at hc
    split at hc
    · rename_i av h hrun
      split at hc
      · rename_i x hx
        have := eqSXss_eq hc
        subst this
        exact ⟨facts, hf, av, h, x, hrun, hx, hg⟩
      · cases hc
    · cases hc
  | .never, _, _, _, hg => hg.elim


/-- A FUNCTION's CONTRACT, BY A PLAN. -/
theorem fn_plan {P : Program} {G : Nat → Option (List AV)} {I : Nat → List DV → DV} {f : FuncId} {sg rs : Sig} {pre : List DV → Prop} {F : List DV → List (List DV)} {call : Orc → CallF} (hG : PlainG G) (hb : HasBody P f)
    (hcall : ∀ O : Orc, O.I = I → @CallOK O P G (fun g args h => if g = f then call O g args h else none)) (p : Pln)
    (hc : checkPlan rs (fun facts => call (mkO facts I) f (mkArgs 0 sg) heap0) [] p = true)
    (hgoal : ∀ (E : Nat → Option Obj) (ds : List (List DV)) (vs : List Value), RepArgs (envE E) sg ds vs → pre ds.flatten → goalPlan (rhoOf I ds.flatten) (F ds.flatten) p) : FnOK P G f sg rs pre F := by
  refine ⟨hb, fun E ds vs w hE hargs hpre hglob => ?_⟩
  obtain ⟨facts, hf, av, h, r, hrun, hres, hF⟩ := plan_leaf (R := rhoOf I ds.flatten) (facts := []) (by simp) hc (hgoal E ds vs.toList hargs hpre)
  have hlen : ∀ i d, ds.flatten[i]? = some d → (rhoOf I ds.flatten).ρ i = d := fun i d hi => by simp [rhoOf, List.getD_eq_getElem?_getD, hi]
  have hV : VL (baseE (rhoOf I ds.flatten) E w) (mkArgs 0 sg) vs.toList := mkArgs_V (l := ds.flatten) (m := baseE (rhoOf I ds.flatten) E w) hlen (RepArgs.emono (m := envE E) (m' := baseE (rhoOf I ds.flatten) E w) (fun _ _ e => e) hargs) (fun j d hj => by rw [Nat.zero_add]; exact hj)
  have hcl := (hcall (mkO facts I) rfl f (mkArgs 0 sg) heap0 av h (by simp only [if_true]; exact hrun)).2
  have key : ∀ (cs : List AV) (g o : Nat), (∀ c ∈ cs, ∃ u, c = AV.sc u) → VC (envE E) g o cs → VC (baseE (rhoOf I ds.flatten) E w) g o cs := by
    intro cs
    induction cs with
    | nil => intro g o _ _; simp [VC]
    | cons c cs ih =>
      intro g o hp hv
      simp only [VC] at hv ⊢
      obtain ⟨⟨v, h1, h2⟩, h3⟩ := hv
      obtain ⟨u, rfl⟩ := hp c (by simp)
      exact ⟨⟨v, h1, by simpa [V] using h2⟩, ih _ _ (fun c hc => hp c (List.mem_cons_of_mem _ hc)) h3⟩
  refine (hcl (baseE (rhoOf I ds.flatten) E w) vs w hV (HR.baseE hE) (@GOK.mk (mkO facts I) _ _ (fun g cs e => key cs g 0 (hG g cs e) (hglob g cs e)) (mkO_ok rfl hf))).mono ?_
  rintro e w' ⟨v, m', rfl, k1, k2, k3⟩
  have hold : ∀ b, b < w.heap.size → w'.heap[b]? = w.heap[b]? := by
    intro b hb
    have e1 : w.heap[b]? = some w.heap[b] := Array.getElem?_eq_getElem hb
    cases hEb : E b with
    | some o =>
      rw [k3.E b o (k1.E b o hEb), hE b o hEb]
    | none =>
      have : (baseE (rhoOf I ds.flatten) E w).F b = some w.heap[b] := by simp only [baseE, hEb, e1]
      rw [k3.F b _ (k1.F b _ this), e1]
  refine ⟨v, m'.E, rfl, ⟨fun b o e => k1.E b o e, fun b o e => ⟨k3.E b o e, ?_⟩, hold, k3.io.trans k1.io⟩, ?_⟩
  · by_cases hb : b < w.heap.size
    · left
      cases hEb : E b with
      | some o' => rw [← k1.E b o' hEb, e]
      | none =>
        have e1 : w.heap[b]? = some w.heap[b] := Array.getElem?_eq_getElem hb
        have : (baseE (rhoOf I ds.flatten) E w).F b = some w.heap[b] := by simp only [baseE, hEb, e1]
        have := k3.EF b _ (k1.F b _ this)
        rw [this] at e
        cases e
    · exact .inr (by omega)
  · have h1 := resSX_spec hres k2
    rw [k1.R] at h1
    have h2 : RepRes m' rs (F ds.flatten) v := by rw [hF]; exact h1
    unfold RepRes at h2 ⊢
    split at h2
    · obtain ⟨d, e1, h3⟩ := h2
      exact ⟨d, e1, RepOne.emono (m := m') (m' := envE m'.E) (fun _ _ e => e) h3⟩
    · obtain ⟨xs, e1, h3⟩ := h2
      exact ⟨xs, e1, RepArgs.emono (m := m') (m' := envE m'.E) (fun _ _ e => e) h3⟩

/-! ### The contract as a spec of the machine -/
noncomputable def resCells (e : SX) (j : Nat) : Nat → List Ty → List AV
  | _, [] => []
  | k, t :: ts => .sy t (.at e (.ki .i64 (.ofNat j)) k) :: resCells e j (Nat.succ k) ts
noncomputable def resOne (e : SX) (j : Nat) : SK → AV
  | .agg ts => .agg (resCells e j 0 ts)
  | .one t => .sy t (.at e (.ki .i64 (.ofNat j)) 0)
  | .con f => .sc (.func (.func f) #[] #[])
noncomputable def resList (e : SX) : Nat → Sig → List AV
  | _, [] => []
  | j, g :: sg => resOne e j g :: resList e (Nat.succ j) sg
noncomputable def resAV (e : SX) : Sig → AV
  | [g] => resOne e 0 g
  | sg => .tup (resList e 0 sg)

noncomputable def symSp [O : Orc] (sg rs : Sig) (preS : List (SX × Bool)) (fid : Nat) (args : List AV) (h : AHeap) : Out :=
  match argsSX sg args with
  | some es => match allKnown es.flatten preS with
    | true => some (resAV (.app fid es.flatten) rs, h)
    | false => none
  | none => none

theorem drop_next {α : Type} {l : List α} {k : Nat} {d : α} {r : List α} (h : l.drop k = d :: r) : l.drop (Nat.succ k) = r := by
  show l.drop (k + 1) = r
  rw [← List.drop_drop, h]
  rfl
theorem resCells_V {m : Env} {e : SX} {es : List (List DV)} {j : Nat} {row : List DV} (he : den m.R e = .list es) (hj : es[j]? = some row) : ∀ {ts : List Ty} {k : Nat} {ds : List DV} {vs : List Value}, row.drop k = ds → RepV m ts ds vs → VL m (resCells e j k ts) vs
  | [], k, ds, vs, hd, h => by
    simp only [resCells, VL]
    exact h.2
  | t :: ts, k, ds, vs, hd, h => by
    obtain ⟨d, ds', v, vs', rfl, rfl, h1, h2⟩ := h
    simp only [resCells, VL]
    refine ⟨v, vs', rfl, ?_, resCells_V he hj (drop_next hd) h2⟩
    simp only [V, den, he, atD, Int.ofNat_eq_natCast, Int.toNat_natCast, List.getD_eq_getElem?_getD, hj, Option.getD_some]
    have : row[k]? = some d := by
      have := congrArg (·[0]?) hd
      simpa using this
    rw [this]
    exact h1
theorem resOne_V {m : Env} {e : SX} {es : List (List DV)} {j : Nat} {row : List DV} (he : den m.R e = .list es) (hj : es[j]? = some row) {g : SK} {v : Value} (h : RepOne m g row v) : V m (resOne e j g) v := by
  cases g with
  | agg ts =>
    obtain ⟨xs, rfl, h1⟩ := h
    simp only [resOne, V]
    exact ⟨xs, rfl, resCells_V he hj List.drop_zero h1⟩
  | one t =>
    obtain ⟨d, rfl, h1⟩ := h
    have := resCells_V (ts := [t]) (vs := [v]) he hj List.drop_zero ⟨d, [], v, [], rfl, rfl, h1, rfl, rfl⟩
    simp only [resCells, VL] at this
    obtain ⟨v', us, e1, h2, _⟩ := this
    cases e1
    exact h2
  | con f =>
    simp only [resOne, V]
    exact h.2
theorem resList_V {m : Env} {e : SX} {es : List (List DV)} (he : den m.R e = .list es) : ∀ {sg : Sig} {j : Nat} {ds : List (List DV)} {vs : List Value}, es.drop j = ds → RepArgs m sg ds vs → VL m (resList e j sg) vs
  | [], j, ds, vs, hd, h => by
    simp only [resList, VL]
    exact h.2
  | g :: sg, j, ds, vs, hd, h => by
    obtain ⟨d, ds', v, vs', rfl, rfl, h1, h2⟩ := h
    have hj : es[j]? = some d := by
      have := congrArg (·[0]?) hd
      simpa using this
    simp only [resList, VL]
    exact ⟨v, vs', rfl, resOne_V he hj h1, resList_V he (drop_next hd) h2⟩
theorem resAV_V {m : Env} {e : SX} {es : List (List DV)} (he : den m.R e = .list es) {rs : Sig} {v : Value} (h : RepRes m rs es v) : V m (resAV e rs) v := by
  unfold RepRes at h
  split at h
  · obtain ⟨d, rfl, h1⟩ := h
    simp only [resAV]
    exact resOne_V he (by simp) h1
  · rename_i hn
    obtain ⟨xs, rfl, h1⟩ := h
    unfold resAV
    split
    · exact absurd rfl (hn _)
    · simp only [V]
      exact ⟨xs, rfl, resList_V he List.drop_zero h1⟩

noncomputable def varsLt (n : Nat) : SX → Bool
  | .v i => Nat.blt i n
  | .len e => varsLt n e
  | .at e i _ => varsLt n e && varsLt n i
  | .byte e i => varsLt n e && varsLt n i
  | .bin _ x y => varsLt n x && varsLt n y
  | .conv _ x => varsLt n x
  | .not x => varsLt n x
  | .cut e a b => varsLt n e && varsLt n a && varsLt n b
  | .cat x y => varsLt n x && varsLt n y
  | .bytes x => varsLt n x
  | .text x => varsLt n x
  | .all es => varsLts es
  | .app _ es => varsLts es
  | .row es => varsLts es
  | _ => true
where
  varsLts : List SX → Bool
    | [] => true
    | e :: es => varsLt n e && varsLts es
mutual
theorem den_congr {n : Nat} {R1 R2 : Rho} (hρ : ∀ i, i < n → R1.ρ i = R2.ρ i) (hI : R1.I = R2.I) : ∀ e : SX, varsLt n e = true → den R1 e = den R2 e
  | .v i, h => hρ i (blt_lt h)
  | .ki k z, _ => rfl
  | .kb b, _ => rfl
  | .ks s, _ => rfl
  | .emp, _ => rfl
  | .len e, h => by simp only [varsLt] at h; simp only [den, den_congr hρ hI e h]
  | .at e i c, h => by simp only [varsLt, Bool.and_eq_true] at h; simp only [den, den_congr hρ hI e h.1, den_congr hρ hI i h.2]
  | .byte e i, h => by simp only [varsLt, Bool.and_eq_true] at h; simp only [den, den_congr hρ hI e h.1, den_congr hρ hI i h.2]
  | .bin op x y, h => by simp only [varsLt, Bool.and_eq_true] at h; simp only [den, den_congr hρ hI x h.1, den_congr hρ hI y h.2]
  | .conv k x, h => by simp only [varsLt] at h; simp only [den, den_congr hρ hI x h]
  | .not x, h => by simp only [varsLt] at h; simp only [den, den_congr hρ hI x h]
  | .cut e a b, h => by simp only [varsLt, Bool.and_eq_true] at h; simp only [den, den_congr hρ hI e h.1.1, den_congr hρ hI a h.1.2, den_congr hρ hI b h.2]
  | .cat x y, h => by simp only [varsLt, Bool.and_eq_true] at h; simp only [den, den_congr hρ hI x h.1, den_congr hρ hI y h.2]
  | .bytes x, h => by simp only [varsLt] at h; simp only [den, den_congr hρ hI x h]
  | .text x, h => by simp only [varsLt] at h; simp only [den, den_congr hρ hI x h]
  | .all es, h => by simp only [varsLt] at h; simp only [den, denAll_congr hρ hI es h]
  | .app f es, h => by simp only [varsLt] at h; simp only [den, denL_congr hρ hI es h, hI]
  | .row es, h => by simp only [varsLt] at h; simp only [den, denL_congr hρ hI es h]
theorem denAll_congr {n : Nat} {R1 R2 : Rho} (hρ : ∀ i, i < n → R1.ρ i = R2.ρ i) (hI : R1.I = R2.I) : ∀ es : List SX, varsLt.varsLts n es = true → den.denAll R1 es = den.denAll R2 es
  | [], _ => rfl
  | e :: es, h => by simp only [varsLt.varsLts, Bool.and_eq_true] at h; simp only [den.denAll, den_congr hρ hI e h.1, denAll_congr hρ hI es h.2]
theorem denL_congr {n : Nat} {R1 R2 : Rho} (hρ : ∀ i, i < n → R1.ρ i = R2.ρ i) (hI : R1.I = R2.I) : ∀ es : List SX, varsLt.varsLts n es = true → den.denL R1 es = den.denL R2 es
  | [], _ => rfl
  | e :: es, h => by simp only [varsLt.varsLts, Bool.and_eq_true] at h; simp only [den.denL, den_congr hρ hI e h.1, denL_congr hρ hI es h.2]
end
def Sig.len (sg : Sig) : Nat := (sg.map SK.len).sum
theorem cellsSX_length : ∀ {ts : List Ty} {as : List AV} {es : List SX}, cellsSX ts as = some es → es.length = ts.length
  | [], [], es, h => by simp only [cellsSX, Option.some.injEq] at h; subst h; rfl
  | t :: ts, a :: as, es, h => by
    simp only [cellsSX] at h
    split at h
    · rename_i e es' _ h2
      cases h
      simp [cellsSX_length h2]
    · cases h
  | [], _ :: _, _, h => by simp [cellsSX] at h
  | _ :: _, [], _, h => by simp [cellsSX] at h
theorem oneSX_length {g : SK} {a : AV} {es : List SX} (h : oneSX g a = some es) : es.length = g.len := by
  cases g with
  | agg ts =>
    simp only [oneSX] at h
    split at h
    · exact cellsSX_length h
    · cases h
  | one t => simp only [oneSX] at h; exact cellsSX_length h
  | con f =>
    simp only [oneSX] at h
    split at h
    · split at h
      · cases h; rfl
      · cases h
    · cases h
theorem argsSX_length : ∀ {sg : Sig} {as : List AV} {es : List (List SX)}, argsSX sg as = some es → es.flatten.length = Sig.len sg
  | [], [], es, h => by simp only [argsSX, Option.some.injEq] at h; subst h; rfl
  | g :: sg, a :: as, es, h => by
    simp only [argsSX] at h
    split at h
    · rename_i e es' h1 h2
      cases h
      rw [List.flatten_cons, List.length_append, oneSX_length h1, argsSX_length h2]
      rfl
    · cases h
  | [], _ :: _, _, h => by simp [argsSX] at h
  | _ :: _, [], _, h => by simp [argsSX] at h

theorem symSp_ok [O : Orc] {P : Program} {G : Nat → Option (List AV)} {f : FuncId} {sg rs : Sig} {preS : List (SX × Bool)} {F : List DV → List (List DV)} {fid : Nat} (hG : PlainG G)
    (hf : FnOK P G f sg rs (fun ds => ∀ p ∈ preS, den (rhoOf O.I ds) p.1 = .bool p.2) F) (hI : ∀ ds, O.I fid ds = .list (F ds))
    (hpre : preS.all (fun p => varsLt (Sig.len sg) p.1) = true) :
    CallOK P G (fun g args h => if g = f then symSp sg rs preS fid args h else none) := by
  intro g args h av h' hs
  simp only at hs
  split at hs
  · rename_i e
    subst e
    unfold symSp at hs
    split at hs
    · rename_i es he
      split at hs
      · rename_i hk
        cases hs
        refine ⟨hf.1, fun m vs w hv hr hg => ?_⟩
        have hargs := argsSX_spec he hv
        have hfl : (es.map (·.map (den m.R))).flatten = es.flatten.map (den m.R) := by rw [List.map_flatten]
        refine (hf.2 m.E _ vs w hr.E (RepArgs.emono (m := m) (m' := envE m.E) (fun _ _ e => e) hargs) ?_ ?_).mono ?_
        · rw [hfl]
          intro p hp
          rw [← allKnown_sound hg.f hk p hp]
          refine den_congr (n := Sig.len sg) (fun i hi => ?_) hg.f.1.symm p.1 (List.all_eq_true.1 hpre p hp)
          rfl
        · intro g cs e
          have key : ∀ (cs : List AV) (o : Nat), (∀ c ∈ cs, ∃ u, c = AV.sc u) → VC m g o cs → VC (envE m.E) g o cs := by
            intro cs
            induction cs with
            | nil => intro o _ _; simp [VC]
            | cons c cs ih =>
              intro o hp hv
              simp only [VC] at hv ⊢
              obtain ⟨⟨v, h1, h2⟩, h3⟩ := hv
              obtain ⟨u, rfl⟩ := hp c (by simp)
              exact ⟨⟨v, h1, by simpa [V] using h2⟩, ih _ (fun c hc => hp c (List.mem_cons_of_mem _ hc)) h3⟩
          exact key cs 0 (hG g cs e) (hg.g g cs e)
        · rintro e w' ⟨v, E', rfl, hgr, hres⟩
          have hle : m.le { m with E := E' } := ⟨⟨fun _ h => h, fun _ _ => rfl, fun b o e => hgr.le b o e, rfl, rfl⟩, fun _ _ h => h, fun _ h => h⟩
          have none_of : ∀ b, b < w.heap.size → m.E b = none → E' b = none := by
            intro b hb he
            cases hE : E' b with
            | none => rfl
            | some o =>
              rcases (hgr.ok b o hE).2 with h1 | h1
              · rw [he] at h1; cases h1
              · omega
          refine ⟨v, { m with E := E' }, rfl, hle, ?_, ⟨hr.next, hr.lim, hr.res, fun b x hb => ?_, fun b o e => (hgr.ok b o e).1, fun b o e => ?_, fun id o ho => ?_, hr.injL, hgr.io.trans hr.io⟩⟩
          · have hd : den ({ m with E := E' } : Env).R (.app fid es.flatten) = .list (F (es.flatten.map (den m.R))) := by
              simp only [den, hg.f.1]
              rw [hI]
              congr 2
              have : ∀ l : List SX, den.denL m.R l = l.map (den m.R) := by
                intro l
                induction l with
                | nil => rfl
                | cons x l ih => simp [den.denL, ih]
              exact this _
            refine resAV_V hd ?_
            rw [hfl] at hres
            unfold RepRes at hres ⊢
            split at hres
            · obtain ⟨d, e1, h3⟩ := hres
              exact ⟨d, e1, RepOne.emono (m := envE E') (m' := { m with E := E' }) (fun _ _ e => e) h3⟩
            · obtain ⟨xs, e1, h3⟩ := hres
              exact ⟨xs, e1, RepArgs.emono (m := envE E') (m' := { m with E := E' }) (fun _ _ e => e) h3⟩
          · have h1 := hr.EF b x hb
            have h2 := (Array.getElem?_eq_some_iff.1 (hr.F b x hb)).1
            exact none_of b h2 h1
          · have h2 := (Array.getElem?_eq_some_iff.1 (hr.F b o e)).1
            rw [hgr.old b h2]
            exact hr.F b o e
          · obtain ⟨g1, g2, g3⟩ := hr.objL id o ho
            exact ⟨g1, fun hl => ⟨none_of _ (g3.lt hl) (g2 hl).1, (g2 hl).2⟩, g3.wmove hle.towle fun hl => hgr.old _ (g3.lt hl)⟩
      · cases hs
    · cases hs
  · cases hs
end Go.AM
namespace Go.AM
open Go

/-! ## Slices handed over as data -/
/-- A slice of the run's own, as data: it is frozen from here on. -/
noncomputable def iceOne (t : Option (TypeId × List Ty)) (a : AV) (h : AHeap) : Option (AV × AHeap) :=
  match t with
  | none => some (a, h)
  | some (el, ts) => match a with
    | .sy u e => some (.sy u e, h)
    | a => match toOwn el ts a h with
      | some (id, E, h1) => some (.sy (.slice ts) E, { next := h1.next, lim := h1.lim, t := h1.t.cut id })
      | none => match ts, a with
        | [t], .sl id off len cap => match h.blk? id with
          | some b => match Nat.ble (off + len) b.n && Nat.ble len 9223372036854775807 with
            | true => match rowsSX t (b.cellsFrom off len) with
              | some E => some (.sy (.slice [t]) E, { next := h.next, lim := h.lim, t := h.t.cut id })
              | none => none
            | false => none
          | none => none
        | _, _ => none
noncomputable def iceAll : List (Option (TypeId × List Ty)) → List AV → AHeap → Option (List AV × AHeap)
  | t :: ts, a :: as, h => match iceOne t a h with
    | some (a', h1) => match iceAll ts as h1 with
      | some (as', h2) => some (a' :: as', h2)
      | none => none
    | none => none
  | _, as, h => some (as, h)

theorem iceOne_ok {m : Env} {h h' : AHeap} {w : World} {t : Option (TypeId × List Ty)} {a a' : AV} {v : Value} (hi : iceOne t a h = some (a', h')) (hr : HR m h w) (hv : V m a v) : ∃ m', m.le m' ∧ V m' a' v ∧ HR m' h' w := by
  unfold iceOne at hi
  split at hi
  · cases hi
    exact ⟨m, .refl m, hv, hr⟩
  rename_i el ts
  split at hi
  · cases hi
    exact ⟨m, .refl m, hv, hr⟩
  split at hi
  · rename_i id E h1 ho
    cases hi
    obtain ⟨m1, l1, v1, r1, g1, _⟩ := toOwn_sound hr hv ho
    obtain ⟨m2, l2, v2, r2⟩ := iceOwn r1 v1 g1
    exact ⟨m2, l1.trans l2, v2, r2⟩
  · split at hi <;> (try (cases hi; done))
    rename_i t id off len cap _ _
    split at hi <;> (try (cases hi; done))
    rename_i b hb
    split at hi <;> (try (cases hi; done))
    rename_i hk
    simp only [Bool.and_eq_true, Nat.ble_eq] at hk
    split at hi <;> (try (cases hi; done))
    rename_i E hE
    cases hi
    obtain ⟨os, o1, o2, o3⟩ := rowsSX_spec (m := m) hE
    rw [length_cellsFrom] at o2
    exact freeze1 (ds := os) hr (by rw [o2]; exact hv) (blk?_some hb) (by rw [o2]; exact hk.1) o1 (by rw [o2]; exact hk.2) fun i d hi u hu => o3 i d _ hi (getElem?_cellsFrom b len off i (by
      have := (List.getElem?_eq_some_iff.1 hi).1
      omega)) u hu
theorem iceAll_ok {w : World} : ∀ {ts : List (Option (TypeId × List Ty))} {as as' : List AV} {m : Env} {h h' : AHeap} {vs : List Value}, iceAll ts as h = some (as', h') → HR m h w → VL m as vs → ∃ m', m.le m' ∧ VL m' as' vs ∧ HR m' h' w
  | [], as, as', m, h, h', vs, hi, hr, hv => by
    have e : iceAll [] as h = some (as, h) := by cases as <;> rfl
    rw [e] at hi
    cases hi
    exact ⟨m, .refl m, hv, hr⟩
  | t :: ts, [], as', m, h, h', vs, hi, hr, hv => by
    have e : iceAll (t :: ts) [] h = some ([], h) := rfl
    rw [e] at hi
    cases hi
    exact ⟨m, .refl m, hv, hr⟩
  | t :: ts, a :: as, as', m, h, h', vs, hi, hr, hv => by
    simp only [iceAll] at hi
    split at hi <;> (try (cases hi; done))
    rename_i a1 h1 e1
    split at hi <;> (try (cases hi; done))
    rename_i as1 h2 e2
    cases hi
    simp only [VL] at hv
    obtain ⟨v, us, rfl, k1, k2⟩ := hv
    obtain ⟨m1, l1, v1, r1⟩ := iceOne_ok e1 hr k1
    obtain ⟨m2, l2, v2, r2⟩ := iceAll_ok e2 r1 (VL.mono l1 _ _ k2)
    exact ⟨m2, l1.trans l2, by simp only [VL]; exact ⟨v, us, rfl, V.mono l2 _ _ v1, v2⟩, r2⟩

/-- A contract whose arguments may be blocks. -/
noncomputable def iceSp (ts : List (Option (TypeId × List Ty))) (sp : List AV → AHeap → Out) (args : List AV) (h : AHeap) : Out :=
  match iceAll ts args h with
  | some (as, h') => sp as h'
  | none => none
theorem iceSp_ok [O : Orc] {P : Program} {G : Nat → Option (List AV)} {f : FuncId} {ts : List (Option (TypeId × List Ty))} {sp : List AV → AHeap → Out} (hs : CallOK P G (fun g args h => if g = f then sp args h else none)) (hb : HasBody P f) :
    CallOK P G (fun g args h => if g = f then iceSp ts sp args h else none) := by
  intro g args h av h' hc
  simp only at hc
  split at hc
  · rename_i e
    subst e
    refine ⟨hb, fun m vs w hv hr hg => ?_⟩
    unfold iceSp at hc
    split at hc
    · rename_i as h1 e1
      obtain ⟨m1, l1, v1, r1⟩ := iceAll_ok e1 hr hv
      refine ((hs g as h1 av h' (by simp only [if_true]; exact hc)).2 m1 vs w v1 r1 (hg.mono l1)).mono ?_
      rintro e w' ⟨v, m', rfl, k1, k2, k3⟩
      exact ⟨v, m', rfl, l1.trans k1, k2, k3⟩
    · cases hc
  · cases hc

/-- Blocks among results. -/
noncomputable def iceRes (ts : List (Option (TypeId × List Ty))) (o : Out) : Out :=
  match o with
  | some (.tup vs, h) => match iceAll ts vs h with
    | some (us, h') => some (.tup us, h')
    | none => none
  | some (a, h) => match ts with
    | [t] => iceOne t a h
    | _ => some (a, h)
  | none => none
theorem iceRes_ok [O : Orc] {P : Program} {G : Nat → Option (List AV)} {ts : List (Option (TypeId × List Ty))} {call : CallF} (hs : CallOK P G call) : CallOK P G (fun f args h => iceRes ts (call f args h)) := by
  intro f args h av h' hc
  simp only at hc
  cases ho : call f args h with
  | none => rw [ho] at hc; simp [iceRes] at hc
  | some r =>
    obtain ⟨av0, h0⟩ := r
    rw [ho] at hc
    obtain ⟨hb, hok⟩ := hs f args h av0 h0 ho
    refine ⟨hb, fun m vs w hv hr hg => (hok m vs w hv hr hg).mono ?_⟩
    rintro e w' ⟨v, m', rfl, k1, k2, k3⟩
    unfold iceRes at hc
    split at hc
    · rename_i vs0 h1 e1
      cases e1
      split at hc <;> (try (cases hc; done))
      rename_i us h2 e2
      cases hc
      simp only [V] at k2
      obtain ⟨xs, rfl, hl⟩ := k2
      obtain ⟨m2, l2, v2, r2⟩ := iceAll_ok e2 k3 hl
      exact ⟨_, m2, rfl, k1.trans l2, by simp only [V]; exact ⟨xs, rfl, v2⟩, r2⟩
    · rename_i a h1 _ e1
      cases e1
      split at hc
      · obtain ⟨m2, l2, v2, r2⟩ := iceOne_ok hc k3 k2
        exact ⟨_, m2, rfl, k1.trans l2, v2, r2⟩
      · cases hc
        exact ⟨_, m', rfl, k1, k2, k3⟩
    · rename_i e1; cases e1
end Go.AM
namespace Go.AM
open Go

/-! ## Functions that answer with a slice of their own -/
/-- A fresh slice that nothing else knows. -/
def Fresh (E' : Nat → Option Obj) (w w' : World) (el : TypeId) (ts : List Ty) (d : DV) (v : Value) : Prop :=
  ∃ (l : List (List DV)) (a : Option Addr) (cap : Nat), d = .list l ∧ v = .slice a l.length cap ∧ l.length ≤ cap ∧ cap ≤ maxLen ∧ (a = none → cap = 0) ∧
    (cap = 0 ∨ ∃ (b : Nat) (c : Array Value), a = some ⟨b, 0, none⟩ ∧ w.heap.size ≤ b ∧ E' b = none ∧ w'.heap[b]? = some (.cells c el (0, 0)) ∧ (∀ row ∈ l, row.length = ts.length) ∧ 1 ≤ ts.length ∧ cap * ts.length ≤ c.size ∧
      ∀ k, k < l.length * ts.length → ∃ u, c[k]? = some u ∧ Rep (envE E') (ts.getD (k % ts.length) .bool) (atD (.list l) (.int .i64 (k / ts.length : Nat)) (k % ts.length)) u)

theorem fresh_of {m : Env} {h : AHeap} {w' : World} {id : Nat} {el : TypeId} {ts : List Ty} {E : SX} {v : Value} (hr : HR m h w') (hv : V m (.own id ts E) v) (hg : h.t.get id = some (.grow el ts E)) {w : World} (hnew : ∀ b, b < w.heap.size → m.E b ≠ none ∨ m.F b ≠ none) : Fresh m.E w w' el ts (den m.R E) v := by
  simp only [V] at hv
  obtain ⟨hd, l, a, d1, rfl, d2, d3, d4, d5⟩ := hv
  obtain ⟨_, hEF, hG⟩ := hr.objL id _ hg
  refine ⟨l, a, _, d1, rfl, d2, d3, d4, ?_⟩
  by_cases hp : (m.mu id).2 = 0
  · exact .inl hp
  obtain ⟨hE, hF⟩ := hEF hp
  rcases GR.own (show GR m (m.mu id) el ts E w' from hG) (by assumption) with h0 | ⟨l', e1, e2, e3, e4, hB⟩
  · exact absurd h0 hp
  rw [d1] at e1
  cases e1
  obtain ⟨c, b1, b2, b3, b4⟩ := hB
  refine .inr ⟨_, c, d5 hp, ?_, hE, b1, e2, e4, (b4 rfl).1, fun k hk => ?_⟩
  · rcases Nat.lt_or_ge (m.mu id).1 w.heap.size with hlt | hge
    · rcases hnew _ hlt with h1 | h1
      · exact absurd hE h1
      · exact absurd hF h1
    · exact hge
  · obtain ⟨u, u1, u2⟩ := b3 k hk
    refine ⟨u, u1, ?_⟩
    rw [growB_cell e4 hk] at u2
    simp only [V, den, d1] at u2
    exact Rep.emono (m := m) (m' := envE m.E) (fun _ _ h => h) u2

/-- One slice more, that nothing in the heap knows. -/
theorem HR.adopt {m : Env} {h : AHeap} {w : World} (hr : HR m h w) {b cap : Nat} {t : TypeId} {ts : List Ty} {e : SX} (hE : m.E b = none) (hF : m.F b = none) (hb : ∀ i o, h.t.get i = some o → live o (m.mu i) → (m.mu i).1 ≠ b)
    (ho : GR (m.add h.next (b, cap)) (b, cap) t ts e w) : m.le (m.add h.next (b, cap)) ∧ HR (m.add h.next (b, cap)) (h.alloc (.grow t ts e)) w := by
  have hle := hr.le_add (b, cap)
  have hlim := hr.lim
  have get : ∀ i x, (h.alloc (.grow t ts e)).t.get i = some x → (i = h.next ∧ x = .grow t ts e) ∨ (i ≠ h.next ∧ h.t.get i = some x) := by
    intro i x hi
    simp only [AHeap.alloc, Tr.get_put] at hi
    by_cases e : h.next = i
    · subst e; simp only [if_true, Option.some.injEq] at hi; exact .inl ⟨rfl, hi.symm⟩
    · simp only [e, if_false] at hi; exact .inr ⟨Ne.symm e, hi⟩
  refine ⟨hle, fun i hd => ?_, by simp only [AHeap.alloc]; omega, fun i hd => ?_, hr.EF, hr.E, hr.F, fun i y hy => ?_, fun i j x y hx hy li lj e => ?_, hr.io⟩
  · simp only [AHeap.alloc]
    rcases hd with hd | rfl
    · have := hr.next i hd
      omega
    · omega
  · simp only [AHeap.alloc]
    obtain ⟨h1, h2, h3⟩ := hr.res i hd
    refine ⟨?_, by omega, by omega⟩
    rintro (h4 | h4)
    · exact h1 h4
    · exact h2 h4
  · rcases get i y hy with ⟨rfl, rfl⟩ | ⟨h1, h2⟩
    · exact ⟨by simp, fun _ => by simpa using ⟨hE, hF⟩, by rw [Env.add_mu]; exact ho⟩
    · obtain ⟨k1, k2, k3⟩ := hr.objL i y h2
      rw [hle.mu i k1]
      exact ⟨hle.dom i k1, k2, k3.move hle fun _ => rfl⟩
  · rcases get i x hx with ⟨rfl, rfl⟩ | ⟨h1, h2⟩ <;> rcases get j y hy with ⟨rfl, rfl⟩ | ⟨k1, k2⟩
    · rfl
    · rw [hle.mu j (hr.objL j y k2).1] at e lj
      rw [Env.add_mu] at e
      exact absurd e.symm (hb j y k2 lj)
    · rw [hle.mu i (hr.objL i x h2).1] at e li
      rw [Env.add_mu] at e
      exact absurd e (hb i x h2 li)
    · rw [hle.mu i (hr.objL i x h2).1] at e li
      rw [hle.mu j (hr.objL j y k2).1] at e lj
      exact hr.injL i j x y h2 k2 li lj e

/-- A first result, and others. -/
def TupOf (rs : Sig) (v v0 : Value) (us : List Value) : Prop :=
  match rs with
  | [] => v = v0 ∧ us = []
  | _ => v = .tuple (v0 :: us).toArray

/-- A FUNCTION's CONTRACT: its first result is a fresh slice, the others are data. -/
def FnOwn (P : Program) (G : Nat → Option (List AV)) (f : FuncId) (sg : Sig) (el : TypeId) (ts : List Ty) (rs : Sig) (pre : List DV → Prop) (F : List DV → List (List DV)) : Prop :=
  HasBody P f ∧ ∀ (E : Nat → Option Obj) (ds : List (List DV)) (vs : Array Value) (w : World), (∀ b o, E b = some o → w.heap[b]? = some o) → RepArgs (envE E) sg ds vs.toList → pre ds.flatten → GlobOK G E →
    Calls P f vs w fun e w' => ∃ v v0 us d0 dr E', e = .returned v ∧ TupOf rs v v0 us ∧ F ds.flatten = [d0] :: dr ∧ Grows E E' w w' ∧ Fresh E' w w' el ts d0 v0 ∧ RepArgs (envE E') rs dr us

noncomputable def resOwnSX (el : TypeId) (ts : List Ty) (rs : Sig) (av : AV) (h : AHeap) : Option (List (List SX)) :=
  match rs with
  | [] => match toOwn el ts av h with
    | some (_, E, _) => some [[E]]
    | none => none
  | _ => match tupOf av with
    | some (a :: as) => match toOwn el ts a h, argsSX rs as with
      | some (_, E, _), some es => some ([E] :: es)
      | _, _ => none
    | _ => none
noncomputable def leafOwn (el : TypeId) (ts : List Ty) (rs : Sig) (o : Out) (r : List (List SX)) : Bool :=
  match o with
  | some (av, h) => match resOwnSX el ts rs av h with
    | some x => eqSXss x r
    | none => false
  | none => false
noncomputable def checkOwn (el : TypeId) (ts : List Ty) (rs : Sig) (run : List (SX × Bool) → Out) : List (SX × Bool) → Pln → Bool
  | facts, .ask e t f => checkOwn el ts rs run ((e, true) :: facts) t && checkOwn el ts rs run ((e, false) :: facts) f
  | facts, .know e b p => checkOwn el ts rs run ((e, b) :: facts) p
  | facts, .done r => leafOwn el ts rs (run facts) r
  | _, .never => true

theorem own_leaf {el : TypeId} {ts : List Ty} {rs : Sig} {run : List (SX × Bool) → Out} {R : Rho} {res : List (List DV)} : ∀ {p : Pln} {facts : List (SX × Bool)}, (∀ q ∈ facts, den R q.1 = .bool q.2) → checkOwn el ts rs run facts p = true → goalPlan R res p →
    ∃ facts', (∀ q ∈ facts', den R q.1 = .bool q.2) ∧ ∃ av h r, run facts' = some (av, h) ∧ resOwnSX el ts rs av h = some r ∧ res = r.map (·.map (den R))
  | .ask e t f, facts, hf, hc, hg => by
    simp only [checkOwn, Bool.and_eq_true] at hc
    obtain ⟨⟨b, hb⟩, h1, h2⟩ := hg
    cases b with
    | true => exact own_leaf (facts := (e, true) :: facts) (fun q hq => by rcases List.mem_cons.1 hq with rfl | hq; exact hb; exact hf q hq) hc.1 (h1 hb)
    | false => exact own_leaf (facts := (e, false) :: facts) (fun q hq => by rcases List.mem_cons.1 hq with rfl | hq; exact hb; exact hf q hq) hc.2 (h2 hb)
  | .know e b p, facts, hf, hc, hg => by
    exact own_leaf (facts := (e, b) :: facts) (fun q hq => by rcases List.mem_cons.1 hq with rfl | hq; exact hg.1; exact hf q hq) hc hg.2
  | .done r, facts, hf, hc, hg => by
    simp only [checkOwn, leafOwn] at hc
    split at hc
    · rename_i av h hrun
      split at hc
      · rename_i x hx
        have := eqSXss_eq hc
        subst this
        exact ⟨facts, hf, av, h, x, hrun, hx, hg⟩
      · cases hc
    · cases hc
  | .never, _, _, _, hg => hg.elim

theorem tupOf_spec {m : Env} {a : AV} {as : List AV} {v : Value} (h : tupOf a = some as) (hv : V m a v) : ∃ xs : Array Value, v = .tuple xs ∧ VL m as xs.toList := by
  unfold tupOf at h
  split at h <;> cases h
  · simpa only [V] using hv
  · simp only [V] at hv
    exact ⟨_, hv, VL_sc m _⟩
/-- A FUNCTION's CONTRACT, BY A PLAN: its first result is a slice of its own. -/
theorem own_plan {P : Program} {G : Nat → Option (List AV)} {I : Nat → List DV → DV} {f : FuncId} {sg rs : Sig} {el : TypeId} {ts : List Ty} {pre : List DV → Prop} {F : List DV → List (List DV)} {call : Orc → CallF} (hG : PlainG G) (hb : HasBody P f)
    (hcall : ∀ O : Orc, O.I = I → @CallOK O P G (fun g args h => if g = f then call O g args h else none)) (p : Pln)
    (hc : checkOwn el ts rs (fun facts => call (mkO facts I) f (mkArgs 0 sg) heap0) [] p = true)
    (hgoal : ∀ (E : Nat → Option Obj) (ds : List (List DV)) (vs : List Value), RepArgs (envE E) sg ds vs → pre ds.flatten → goalPlan (rhoOf I ds.flatten) (F ds.flatten) p) : FnOwn P G f sg el ts rs pre F := by
  refine ⟨hb, fun E ds vs w hE hargs hpre hglob => ?_⟩
  obtain ⟨facts, hf, av, h, r, hrun, hres, hF⟩ := own_leaf (R := rhoOf I ds.flatten) (facts := []) (by simp) hc (hgoal E ds vs.toList hargs hpre)
  have hlen : ∀ i d, ds.flatten[i]? = some d → (rhoOf I ds.flatten).ρ i = d := fun i d hi => by simp [rhoOf, List.getD_eq_getElem?_getD, hi]
  have hV : VL (baseE (rhoOf I ds.flatten) E w) (mkArgs 0 sg) vs.toList := mkArgs_V (l := ds.flatten) (m := baseE (rhoOf I ds.flatten) E w) hlen (RepArgs.emono (m := envE E) (m' := baseE (rhoOf I ds.flatten) E w) (fun _ _ e => e) hargs) (fun j d hj => by rw [Nat.zero_add]; exact hj)
  have hcl := (hcall (mkO facts I) rfl f (mkArgs 0 sg) heap0 av h (by simp only [if_true]; exact hrun)).2
  have key : ∀ (cs : List AV) (g o : Nat), (∀ c ∈ cs, ∃ u, c = AV.sc u) → VC (envE E) g o cs → VC (baseE (rhoOf I ds.flatten) E w) g o cs := by
    intro cs
    induction cs with
    | nil => intro g o _ _; simp [VC]
    | cons c cs ih =>
      intro g o hp hv
      simp only [VC] at hv ⊢
      obtain ⟨⟨v, h1, h2⟩, h3⟩ := hv
      obtain ⟨u, rfl⟩ := hp c (by simp)
      exact ⟨⟨v, h1, by simpa [V] using h2⟩, ih _ _ (fun c hc => hp c (List.mem_cons_of_mem _ hc)) h3⟩
  refine (hcl (baseE (rhoOf I ds.flatten) E w) vs w hV (HR.baseE hE) (@GOK.mk (mkO facts I) _ _ (fun g cs e => key cs g 0 (hG g cs e) (hglob g cs e)) (mkO_ok rfl hf))).mono ?_
  rintro e w' ⟨v, m', rfl, k1, k2, k3⟩
  have fin : ∀ m2 : Env, m'.le m2 → ∀ h2, HR m2 h2 w' → Grows E m2.E w w' ∧ ∀ b, b < w.heap.size → m2.E b ≠ none ∨ m2.F b ≠ none := by
    intro m2 l2 h2 r2
    have k1 := k1.trans l2
    have hold : ∀ b, b < w.heap.size → w'.heap[b]? = w.heap[b]? := by
      intro b hb
      have e1 : w.heap[b]? = some w.heap[b] := Array.getElem?_eq_getElem hb
      cases hEb : E b with
      | some o =>
        rw [r2.E b o (k1.E b o hEb), hE b o hEb]
      | none =>
        have : (baseE (rhoOf I ds.flatten) E w).F b = some w.heap[b] := by simp only [baseE, hEb, e1]
        rw [r2.F b _ (k1.F b _ this), e1]
    refine ⟨⟨fun b o e => k1.E b o e, fun b o e => ⟨r2.E b o e, ?_⟩, hold, r2.io.trans k1.io⟩, fun b hb => ?_⟩
    · by_cases hb : b < w.heap.size
      · left
        cases hEb : E b with
        | some o' => rw [← k1.E b o' hEb, e]
        | none =>
          have e1 : w.heap[b]? = some w.heap[b] := Array.getElem?_eq_getElem hb
          have : (baseE (rhoOf I ds.flatten) E w).F b = some w.heap[b] := by simp only [baseE, hEb, e1]
          have := r2.EF b _ (k1.F b _ this)
          rw [this] at e
          cases e
      · exact .inr (by omega)
    · cases hEb : E b with
      | some o => exact .inl (by rw [k1.E b o hEb]; simp)
      | none =>
        have e1 : w.heap[b]? = some w.heap[b] := Array.getElem?_eq_getElem hb
        have : (baseE (rhoOf I ds.flatten) E w).F b = some w.heap[b] := by simp only [baseE, hEb, e1]
        exact .inr (by rw [k1.F b _ this]; simp)
  have hR0 : m'.R = rhoOf I ds.flatten := k1.R
  unfold resOwnSX at hres
  split at hres
  · split at hres <;> (try (cases hres; done))
    rename_i id Ex h2 ho
    cases hres
    obtain ⟨m2, l2, v2, r2, g2, _⟩ := toOwn_sound k3 k2 ho
    obtain ⟨f1, f2⟩ := fin m2 l2 h2 r2
    refine ⟨v, v, [], den (rhoOf I ds.flatten) Ex, [], m2.E, rfl, ⟨rfl, rfl⟩, by rw [hF]; rfl, f1, ?_, ⟨rfl, rfl⟩⟩
    rw [← hR0, ← l2.R]
    exact fresh_of r2 v2 g2 f2
  · rename_i hn
    split at hres <;> (try (cases hres; done))
    rename_i a as has
    split at hres <;> (try (cases hres; done))
    rename_i id Ex h2 es ho hes
    cases hres
    obtain ⟨xs, rfl, hl⟩ := tupOf_spec has k2
    simp only [VL] at hl
    obtain ⟨v0, us, hxs, hv0, hus⟩ := hl
    obtain ⟨m2, l2, v2, r2, g2, _⟩ := toOwn_sound k3 hv0 ho
    obtain ⟨f1, f2⟩ := fin m2 l2 h2 r2
    refine ⟨_, v0, us, den (rhoOf I ds.flatten) Ex, es.map (·.map (den (rhoOf I ds.flatten))), m2.E, rfl, ?_, by rw [hF]; rfl, f1, ?_, ?_⟩
    · unfold TupOf
      split
      · exact absurd rfl hn
      · rw [← hxs]
    · rw [← hR0, ← l2.R]
      exact fresh_of r2 v2 g2 f2
    · have h1 := argsSX_spec hes (VL.mono l2 _ _ hus)
      rw [l2.R, hR0] at h1
      exact RepArgs.emono (m := m2) (m' := envE m2.E) (fun _ _ e => e) h1

/-! ### The contract as a spec of the machine -/
noncomputable def symOwn [O : Orc] (sg : Sig) (el : TypeId) (ts : List Ty) (rs : Sig) (preS : List (SX × Bool)) (fid : Nat) (args : List AV) (h : AHeap) : Out :=
  match argsSX sg args with
  | some es => match allKnown es.flatten preS with
    | true => some (match rs with
      | [] => .own h.next ts (.at (.app fid es.flatten) (.ki .i64 (.ofNat 0)) 0)
      | _ => .tup (.own h.next ts (.at (.app fid es.flatten) (.ki .i64 (.ofNat 0)) 0) :: resList (.app fid es.flatten) 1 rs), h.alloc (.grow el ts (.at (.app fid es.flatten) (.ki .i64 (.ofNat 0)) 0)))
    | false => none
  | none => none

theorem symOwn_ok [O : Orc] {P : Program} {G : Nat → Option (List AV)} {f : FuncId} {sg rs : Sig} {el : TypeId} {ts : List Ty} {preS : List (SX × Bool)} {F : List DV → List (List DV)} {fid : Nat} (hG : PlainG G)
    (hf : FnOwn P G f sg el ts rs (fun ds => ∀ p ∈ preS, den (rhoOf O.I ds) p.1 = .bool p.2) F) (hI : ∀ ds, O.I fid ds = .list (F ds))
    (hpre : preS.all (fun p => varsLt (Sig.len sg) p.1) = true) :
    CallOK P G (fun g args h => if g = f then symOwn sg el ts rs preS fid args h else none) := by
  intro g args h av h' hs
  simp only at hs
  split at hs
  · rename_i e
    subst e
    unfold symOwn at hs
    split at hs
    · rename_i es he
      split at hs
      · rename_i hk
        simp only [Option.some.injEq, Prod.mk.injEq] at hs
        obtain ⟨hav, rfl⟩ := hs
        refine ⟨hf.1, fun m vs w hv hr hg => ?_⟩
        have hargs := argsSX_spec he hv
        have hfl : (es.map (·.map (den m.R))).flatten = es.flatten.map (den m.R) := by rw [List.map_flatten]
        refine (hf.2 m.E _ vs w hr.E (RepArgs.emono (m := m) (m' := envE m.E) (fun _ _ e => e) hargs) ?_ ?_).mono ?_
        · rw [hfl]
          intro p hp
          rw [← allKnown_sound hg.f hk p hp]
          refine den_congr (n := Sig.len sg) (fun i hi => ?_) hg.f.1.symm p.1 (List.all_eq_true.1 hpre p hp)
          rfl
        · intro g cs e
          have key : ∀ (cs : List AV) (o : Nat), (∀ c ∈ cs, ∃ u, c = AV.sc u) → VC m g o cs → VC (envE m.E) g o cs := by
            intro cs
            induction cs with
            | nil => intro o _ _; simp [VC]
            | cons c cs ih =>
              intro o hp hv
              simp only [VC] at hv ⊢
              obtain ⟨⟨v, h1, h2⟩, h3⟩ := hv
              obtain ⟨u, rfl⟩ := hp c (by simp)
              exact ⟨⟨v, h1, by simpa [V] using h2⟩, ih _ (fun c hc => hp c (List.mem_cons_of_mem _ hc)) h3⟩
          exact key cs 0 (hG g cs e) (hg.g g cs e)
        · rintro e w' ⟨v, v0, us, d0, dr, E', rfl, htup, hFr, hgr, hfresh, hrest⟩
          have hle : m.le { m with E := E' } := ⟨⟨fun _ h => h, fun _ _ => rfl, fun b o e => hgr.le b o e, rfl, rfl⟩, fun _ _ h => h, fun _ h => h⟩
          have none_of : ∀ b, b < w.heap.size → m.E b = none → E' b = none := by
            intro b hb he
            cases hE : E' b with
            | none => rfl
            | some o =>
              rcases (hgr.ok b o hE).2 with h1 | h1
              · rw [he] at h1; cases h1
              · omega
          have hr1 : HR { m with E := E' } h w' := ⟨hr.next, hr.lim, hr.res, fun b x hb => by
              have h1 := hr.EF b x hb
              have h2 := (Array.getElem?_eq_some_iff.1 (hr.F b x hb)).1
              exact none_of b h2 h1, fun b o e => (hgr.ok b o e).1, fun b o e => by
              have h2 := (Array.getElem?_eq_some_iff.1 (hr.F b o e)).1
              rw [hgr.old b h2]
              exact hr.F b o e, fun id o ho => by
              obtain ⟨g1, g2, g3⟩ := hr.objL id o ho
              exact ⟨g1, fun hl => ⟨none_of _ (g3.lt hl) (g2 hl).1, (g2 hl).2⟩, g3.wmove hle.towle fun hl => hgr.old _ (g3.lt hl)⟩, hr.injL, hgr.io.trans hr.io⟩
          have hd : ∀ m2 : Env, m2.R = m.R → den m2.R (.app fid es.flatten) = .list ([d0] :: dr) := by
            intro m2 hm2
            rw [hm2]
            simp only [den, hg.f.1]
            rw [hI, denL_map, ← hfl, hFr]
          have hd0 : ∀ m2 : Env, m2.R = m.R → den m2.R (.at (.app fid es.flatten) (.ki .i64 (.ofNat 0)) 0) = d0 := by
            intro m2 hm2
            have := hd m2 hm2
            simp only [den] at this ⊢
            rw [this]
            simp [atD]
          obtain ⟨l, a, cap, rfl, rfl, c1, c2, c3, c4⟩ := hfresh
          -- the new slice
          have hnew : ∃ b, ∃ m2 : Env, m2 = ({ m with E := E' } : Env).add h.next (b, cap) ∧ ({ m with E := E' } : Env).le m2 ∧ HR m2 (h.alloc (.grow el ts (.at (.app fid es.flatten) (.ki .i64 (.ofNat 0)) 0))) w' ∧ (cap ≠ 0 → a = some ⟨b, 0, none⟩) := by
            rcases c4 with c4 | ⟨b, c, rfl, q1, q2, q3, q4, q5, q6, q7⟩
            · subst c4
              obtain ⟨p1, p2⟩ := hr1.phantom el ts (.at (.app fid es.flatten) (.ki .i64 (.ofNat 0)) 0)
              exact ⟨0, _, rfl, p1, p2, fun h => absurd rfl h⟩
            · have hF : m.F b = none := by
                cases hx : m.F b with
                | none => rfl
                | some x =>
                  have := (Array.getElem?_eq_some_iff.1 (hr.F b x hx)).1
                  omega
              have hGR : GR (({ m with E := E' } : Env).add h.next (b, cap)) (b, cap) el ts (.at (.app fid es.flatten) (.ki .i64 (.ofNat 0)) 0) w' := by
                refine .inr (.inl ⟨l, hd0 _ rfl, q4, c1, q5, c, q3, (Nat.le_trans (Nat.mul_le_mul_right _ c1) q6), fun k hk => ?_, fun _ => ⟨q6, c2, Nat.mul_le_mul_right _ c1⟩⟩)
                have hk' : k < l.length * ts.length := hk
                obtain ⟨u, u1, u2⟩ := q7 k hk'
                refine ⟨u, u1, ?_⟩
                rw [growB_cell q5 hk']
                simp only [V, den]
                have := hd0 (({ m with E := E' } : Env).add h.next (b, cap)) rfl
                simp only [den] at this
                rw [this]
                exact Rep.emono (m := envE E') (m' := ({ m with E := E' } : Env).add h.next (b, cap)) (fun _ _ e => e) u2
              obtain ⟨p1, p2⟩ := hr1.adopt (b := b) (cap := cap) (t := el) (ts := ts) (e := .at (.app fid es.flatten) (.ki .i64 (.ofNat 0)) 0) q2 hF (fun i o ho hl e => by
                have := (hr.objL i o ho).2.2.lt hl
                have e' : (m.mu i).1 = b := e
                omega) hGR
              exact ⟨b, _, rfl, p1, p2, fun _ => rfl⟩
          obtain ⟨b, m2, hm2, p1, p2, p3⟩ := hnew
          have hm2R : m2.R = m.R := p1.R
          have hE2 : m2.E = E' := by rw [hm2]; rfl
          have hown : V m2 (.own h.next ts (.at (.app fid es.flatten) (.ki .i64 (.ofNat 0)) 0)) (.slice a l.length cap) := by
            have hmu : m2.mu h.next = (b, cap) := by rw [hm2]; simp
            simp only [V, hmu]
            exact ⟨by rw [hm2]; simp, l, a, hd0 m2 hm2R, rfl, c1, c2, c3, p3⟩
          refine ⟨v, m2, rfl, hle.trans p1, ?_, p2⟩
          rw [← hav]
          cases rs with
          | nil =>
            obtain ⟨rfl, _⟩ := htup
            exact hown
          | cons g gs =>
            obtain rfl : v = .tuple (.slice a l.length cap :: us).toArray := htup
            simp only [V]
            refine ⟨_, rfl, ?_⟩
            simp only [VL]
            exact ⟨_, us, rfl, hown, resList_V (es := [.list l] :: dr) (hd m2 hm2R) (by simp) (RepArgs.emono (m := envE E') (m' := m2) (fun _ _ e => by rw [hE2]; exact e) hrest)⟩
      · cases hs
    · cases hs
  · cases hs
end Go.AM
namespace Go.AM
open Go
/-! ## Functions of exact values, by a table -/
noncomputable def eqL : List AV → List AV → Bool
  | [], [] => true
  | .sc u :: xs, .sc v :: ys => eqV u v && eqL xs ys
  | _, _ => false
/-- b is in the table: exact, one level deep. -/
noncomputable def eqX : AV → AV → Bool
  | .sc (.agg us), .agg ds => eqL (us.toList.map .sc) ds
  | .agg cs, .agg ds => eqL cs ds
  | .sc (.tuple us), .tup ds => eqL (us.toList.map .sc) ds
  | .tup cs, .tup ds => eqL cs ds
  | .sc u, .sc v => eqV u v
  | _, _ => false
noncomputable def eqXs : List AV → List AV → Bool
  | [], [] => true
  | x :: xs, y :: ys => eqX x y && eqXs xs ys
  | _, _ => false
theorem eqV_eq {u v : Value} (h : eqV u v = true) : u = v := @eqV_sound ⟨fun _ => none, fun _ _ => .bool false⟩ u v h
theorem eqL_spec : ∀ {xs ys : List AV}, eqL xs ys = true → xs = ys ∧ ∃ us : List Value, xs = us.map .sc
  | [], [], _ => ⟨rfl, [], rfl⟩
  | x :: xs, y :: ys, h => by
    unfold eqL at h
    split at h
    · rename_i heq _; cases heq
    · rename_i u as v bs heq1 heq2
      cases heq1
      cases heq2
      simp only [Bool.and_eq_true] at h
      obtain ⟨e, us, e2⟩ := eqL_spec h.2
      rw [eqV_eq h.1, ← e]
      exact ⟨rfl, v :: us, by rw [e2]; rfl⟩
    · cases h
  | [], _ :: _, h => by simp [eqL] at h
  | _ :: _, [], h => by simp [eqL] at h
/-- a says that a value is u, and nothing else. -/
def Exact (a : AV) (u : Value) : Prop := ∀ m v, V m a v ↔ v = u
theorem exact_sc (u : Value) : Exact (.sc u) u := fun m v => by simp [V]
theorem exact_agg (us : List Value) : Exact (.agg (us.map .sc)) (.agg us.toArray) := fun m v => by
  simp only [V]
  constructor
  · rintro ⟨vs, rfl, h⟩
    rw [← VL_scs.1 h]
  · rintro rfl
    exact ⟨us.toArray, rfl, VL_scs.2 (by simp)⟩
theorem exact_tup (us : List Value) : Exact (.tup (us.map .sc)) (.tuple us.toArray) := fun m v => by
  simp only [V]
  constructor
  · rintro ⟨vs, rfl, h⟩
    rw [← VL_scs.1 h]
  · rintro rfl
    exact ⟨us.toArray, rfl, VL_scs.2 (by simp)⟩
theorem eqX_spec {a b : AV} (h : eqX a b = true) : ∃ u, Exact a u ∧ Exact b u := by
  unfold eqX at h
  split at h
  · rename_i us ds
    obtain ⟨e, ws, e2⟩ := eqL_spec h
    have h3 : us.toList = ws := (List.map_inj_right (fun a b e => by cases e; rfl)).1 e2
    refine ⟨.agg us, exact_sc _, ?_⟩
    rw [← e]
    have := exact_agg us.toList
    simpa using this
  · obtain ⟨rfl, ws, rfl⟩ := eqL_spec h
    exact ⟨_, exact_agg ws, exact_agg ws⟩
  · rename_i us ds
    obtain ⟨e, ws, e2⟩ := eqL_spec h
    refine ⟨.tuple us, exact_sc _, ?_⟩
    rw [← e]
    have := exact_tup us.toList
    simpa using this
  · obtain ⟨rfl, ws, rfl⟩ := eqL_spec h
    exact ⟨_, exact_tup ws, exact_tup ws⟩
  · rw [eqV_eq h]
    exact ⟨_, exact_sc _, exact_sc _⟩
  · cases h
theorem eqXs_ex : ∀ {xs ys : List AV}, eqXs xs ys = true → ∃ us : List Value, (∀ m vs, VL m xs vs ↔ vs = us) ∧ ∀ m vs, VL m ys vs ↔ vs = us
  | [], [], _ => ⟨[], fun m vs => by simp [VL], fun m vs => by simp [VL]⟩
  | x :: xs, y :: ys, h => by
    simp only [eqXs, Bool.and_eq_true] at h
    obtain ⟨u, e1, e2⟩ := eqX_spec h.1
    obtain ⟨us, k1, k2⟩ := eqXs_ex h.2
    refine ⟨u :: us, fun m vs => ?_, fun m vs => ?_⟩
    · simp only [VL]
      constructor
      · rintro ⟨v, ws, rfl, h1, h2⟩
        rw [(e1 m v).1 h1, (k1 m ws).1 h2]
      · rintro rfl
        exact ⟨u, us, rfl, (e1 m u).2 rfl, (k1 m us).2 rfl⟩
    · simp only [VL]
      constructor
      · rintro ⟨v, ws, rfl, h1, h2⟩
        rw [(e2 m v).1 h1, (k2 m ws).1 h2]
      · rintro rfl
        exact ⟨u, us, rfl, (e2 m u).2 rfl, (k2 m us).2 rfl⟩
  | [], _ :: _, h => by simp [eqXs] at h
  | _ :: _, [], h => by simp [eqXs] at h
theorem eqXs_spec {m m' : Env} {xs ys : List AV} {vs : List Value} (h : eqXs xs ys = true) (hv : VL m xs vs) : VL m' ys vs := by
  obtain ⟨us, k1, k2⟩ := eqXs_ex h
  exact (k2 m' vs).2 ((k1 m vs).1 hv)
/-- .. results in a row, each to its bottom. -/
noncomputable def eqR : AV → AV → Bool
  | .tup cs, .tup ds => eqXs cs ds
  | a, b => eqX a b
theorem eqR_spec {a b : AV} (h : eqR a b = true) : ∃ u, Exact a u ∧ Exact b u := by
  unfold eqR at h
  split at h
  · obtain ⟨us, k1, k2⟩ := eqXs_ex h
    refine ⟨.tuple us.toArray, fun m v => ?_, fun m v => ?_⟩
    · simp only [V]
      constructor
      · rintro ⟨vs, rfl, h⟩
        rw [← (k1 m _).1 h]
      · rintro rfl
        exact ⟨us.toArray, rfl, (k1 m _).2 (by simp)⟩
    · simp only [V]
      constructor
      · rintro ⟨vs, rfl, h⟩
        rw [← (k2 m _).1 h]
      · rintro rfl
        exact ⟨us.toArray, rfl, (k2 m _).2 (by simp)⟩
  · exact eqX_spec h

noncomputable def lookX (xs : List AV) : List (List AV × AV) → Option AV
  | [] => none
  | (k, v) :: l => match eqXs xs k with
    | true => some v
    | false => lookX xs l
noncomputable def tabX (tab : List (List AV × AV)) (args : List AV) (h : AHeap) : Out :=
  match lookX args tab with
  | some v => some (v, h)
  | none => none
theorem lookX_mem {xs : List AV} {v : AV} : ∀ {l : List (List AV × AV)}, lookX xs l = some v → ∃ k, (k, v) ∈ l ∧ eqXs xs k = true
  | [], h => by simp [lookX] at h
  | (k, u) :: l, h => by
    rw [lookX] at h
    split at h
    · rename_i e
      cases h
      exact ⟨k, by simp, e⟩
    · obtain ⟨k', h1, h2⟩ := lookX_mem h
      exact ⟨k', List.mem_cons_of_mem _ h1, h2⟩

/-- A row of the table was run. -/
noncomputable def rowX (o : Out) (r : AV) : Bool :=
  match o with
  | some (av, _) => eqR av r
  | none => false
theorem tabX_ok [O : Orc] {P : Program} {G : Nat → Option (List AV)} {call : CallF} (hcall : CallOK P G call) (hG : PlainG G) {f : FuncId} {tab : List (List AV × AV)} (ht : ∀ r ∈ tab, rowX (call f r.1 heap0) r.2 = true) :
    CallOK P G (fun g args h => if g = f then tabX tab args h else none) := by
  intro g args h av h' hs
  simp only at hs
  split at hs
  · rename_i e
    subst e
    unfold tabX at hs
    split at hs
    · rename_i v hl
      cases hs
      obtain ⟨k, hm, hk⟩ := lookX_mem hl
      have hr := ht _ hm
      unfold rowX at hr
      split at hr
      · rename_i av0 hx hrun
        obtain ⟨u, h1, h2⟩ := eqR_spec hr
        refine ⟨(hcall g _ _ _ _ hrun).1, fun m vs w hv hr hg => iso_core hcall hG hrun (fun m v hv => (h1 m v).1 hv) (fun m => (h2 m u).2 rfl) hr hg (eqXs_spec hk hv)⟩
      · cases hr
    · cases hs
  · cases hs
end Go.AM
namespace Go.AM
open Go

/-! ## Data, as plain numbers and bytes -/
def iD (ds : List DV) (k : Nat) : Int := match ds.getD k (.bool false) with
  | .int _ z => z
  | _ => 0
def bD (ds : List DV) (k : Nat) : Bool := match ds.getD k (.bool false) with
  | .bool b => b
  | _ => false
def sD (ds : List DV) (k : Nat) : ByteArray := match ds.getD k (.bool false) with
  | .str s => s
  | _ => ⟨#[]⟩
def lD (ds : List DV) (k : Nat) : List (List DV) := match ds.getD k (.bool false) with
  | .list es => es
  | _ => []
abbrev tI : Ty := .int .i64
abbrev tU8 : Ty := .int .u8
abbrev tU32 : Ty := .int .u32
abbrev tU64 : Ty := .int .u64
abbrev tB : Ty := .slice [tU8]
def bstr (a : Array UInt8) : ByteArray := ⟨a⟩
noncomputable abbrev k64 (n : Nat) : SX := .ki .i64 (.ofNat n)
noncomputable abbrev lss (a b : SX) : SX := .bin .lss a b
noncomputable abbrev eql (a b : SX) : SX := .bin .eql a b
noncomputable abbrev add (a b : SX) : SX := .bin .add a b
noncomputable abbrev sub (a b : SX) : SX := .bin .sub a b
noncomputable abbrev lenOK (k : Nat) : SX × Bool := (lss (k64 1000000) (.len (.v k)), false)
noncomputable def knows : List (SX × Bool) → Pln → Pln
  | [], p => p
  | (e, b) :: l, p => .know e b (knows l p)
noncomputable def knowR : List (SX × Bool) → RPln → RPln
  | [], p => p
  | (e, b) :: l, p => .know e b (knowR l p)
def bytesI (l : List Int) : List (List DV) := l.map fun z => [DV.int .u8 z]
def intOfRow : List DV → Int
  | [.int _ z] => z
  | _ => 0
def intsD (ds : List DV) (k : Nat) : List Int := (lD ds k).map intOfRow
theorem ints_bytes (l : List Int) : (bytesI l).map intOfRow = l := by
  unfold bytesI
  rw [List.map_map]
  conv => rhs; rw [← List.map_id l]
  exact List.map_congr_left fun z _ => rfl
/-- The bytes of a string. -/
def strI (t : ByteArray) : List Int := t.data.toList.map fun b => (b.toNat : Int)
/-- The string of bytes. -/
def textI (l : List Int) : ByteArray := ⟨(l.map fun z => UInt8.ofNat z.toNat).toArray⟩

def IsL : List Ty → List DV → Prop
  | [], ds => ds = []
  | t :: ts, ds => ∃ d ds', ds = d :: ds' ∧ Is t d ∧ IsL ts ds'
def IsOne : SK → List DV → Prop
  | .agg ts, ds => IsL ts ds
  | .one t, ds => ∃ d, ds = [d] ∧ Is t d
  | .con _, ds => ds = []
def IsArgs : Sig → List (List DV) → Prop
  | [], ds => ds = []
  | g :: sg, ds => ∃ d ds', ds = d :: ds' ∧ IsOne g d ∧ IsArgs sg ds'
theorem repV_is {m : Env} : ∀ {ts : List Ty} {ds : List DV} {vs : List Value}, RepV m ts ds vs → IsL ts ds
  | [], ds, vs, h => h.1
  | t :: ts, ds, vs, h => by
    obtain ⟨d, ds', v, vs', e1, e2, h1, h2⟩ := h
    exact ⟨d, ds', e1, ⟨m, v, h1⟩, repV_is h2⟩
theorem repArgs_is {m : Env} : ∀ {sg : Sig} {ds : List (List DV)} {vs : List Value}, RepArgs m sg ds vs → IsArgs sg ds
  | [], ds, vs, h => h.1
  | g :: sg, ds, vs, h => by
    obtain ⟨d, ds', v, vs', e1, e2, h1, h2⟩ := h
    refine ⟨d, ds', e1, ?_, repArgs_is h2⟩
    cases g with
    | agg ts => obtain ⟨xs, _, h3⟩ := h1; exact repV_is h3
    | one t => obtain ⟨x, e, h3⟩ := h1; exact ⟨x, e, m, v, h3⟩
    | con f => exact h1.1

/-! ## Steps of a goal -/
theorem goal_ask {R : Rho} {res : List (List DV)} {e : SX} {b : Bool} {t f : Pln} (h : den R e = .bool b) (ht : b = true → goalPlan R res t) (hf : b = false → goalPlan R res f) : goalPlan R res (.ask e t f) := by
  refine ⟨⟨b, h⟩, fun g => ht ?_, fun g => hf ?_⟩
  · rw [h] at g; simpa using g
  · rw [h] at g; simpa using g
theorem goal_know {R : Rho} {res : List (List DV)} {e : SX} {b : Bool} {p : Pln} (h : den R e = .bool b) (hp : goalPlan R res p) : goalPlan R res (.know e b p) := ⟨h, hp⟩
theorem goal_knows {R : Rho} {res : List (List DV)} {p : Pln} : ∀ {l : List (SX × Bool)}, (∀ q ∈ l, den R q.1 = .bool q.2) → goalPlan R res p → goalPlan R res (knows l p)
  | [], _, hp => hp
  | (e, b) :: l, h, hp => ⟨h (e, b) (by simp), goal_knows (fun q hq => h q (List.mem_cons_of_mem _ hq)) hp⟩
section
variable {L : LoopSp} {inv : Rho → Prop} {μ : Rho → Nat} {R : Rho}
theorem round_ask {e : SX} {b : Bool} {t f : RPln} (h : den R e = .bool b) (ht : b = true → goalRound L inv μ R t) (hf : b = false → goalRound L inv μ R f) : goalRound L inv μ R (.ask e t f) := by
  refine ⟨⟨b, h⟩, fun g => ht ?_, fun g => hf ?_⟩
  · rw [h] at g; simpa using g
  · rw [h] at g; simpa using g
theorem round_know {e : SX} {b : Bool} {p : RPln} (h : den R e = .bool b) (hp : goalRound L inv μ R p) : goalRound L inv μ R (.know e b p) := ⟨h, hp⟩
theorem round_knows {p : RPln} : ∀ {l : List (SX × Bool)}, (∀ q ∈ l, den R q.1 = .bool q.2) → goalRound L inv μ R p → goalRound L inv μ R (knowR l p)
  | [], _, hp => hp
  | (e, b) :: l, h, hp => ⟨h (e, b) (by simp), round_knows (fun q hq => h q (List.mem_cons_of_mem _ hq)) hp⟩
/-- A round that goes on, of a loop with one end. -/
theorem round_next {τ : List SX} (hc : ∀ R, den R L.cnd = .bool true) (hi : inv (R.sub τ)) (hm : μ (R.sub τ) < μ R) (ho : L.yes.2.2.map (den (R.sub τ)) = L.yes.2.2.map (den R)) : goalRound L inv μ R (.next τ) :=
  ⟨hi, hm, by rw [hc, hc], fun b hb => by
    rw [hc] at hb
    cases hb
    exact ho⟩
theorem round_exit {τ : List SX} (hc : ∀ R, den R L.cnd = .bool true) (ho : τ.map (den R) = L.yes.2.2.map (den R)) : goalRound L inv μ R (.exit true τ) := ⟨hc R, ho⟩
end
/-- What a variable is, behind a round. -/
theorem sub_v (R : Rho) (τ : List SX) (i : Nat) : (R.sub τ).ρ i = (τ.map (den R)).getD i (.bool false) := rfl

/-! ## Numbers and bytes -/
theorem wrap_u8 (z : Int) : IntKind.u8.wrap z = z % 256 := by simp [IntKind.wrap, IntKind.signed, IntKind.bits]
theorem wrap_u16 (z : Int) : IntKind.u16.wrap z = z % 65536 := by simp [IntKind.wrap, IntKind.signed, IntKind.bits]
theorem wrap_u32 (z : Int) : IntKind.u32.wrap z = z % 4294967296 := by simp [IntKind.wrap, IntKind.signed, IntKind.bits]
theorem wrap_u64 (z : Int) : IntKind.u64.wrap z = z % 18446744073709551616 := by simp [IntKind.wrap, IntKind.signed, IntKind.bits]
theorem wrap_i64' (z : Int) : IntKind.i64.wrap z = if z % 18446744073709551616 ≥ 9223372036854775808 then z % 18446744073709551616 - 18446744073709551616 else z % 18446744073709551616 := by
  simp [IntKind.wrap, IntKind.signed, IntKind.bits]
theorem wrap_i64 {z : Int} (h1 : -9223372036854775808 ≤ z) (h2 : z ≤ 9223372036854775807) : IntKind.i64.wrap z = z := by
  rw [wrap_i64']
  split <;> omega
theorem u8_bd {z : Int} (h1 : IntKind.u8.min ≤ z) (h2 : z ≤ IntKind.u8.max) : 0 ≤ z ∧ z ≤ 255 := by
  simp [IntKind.min, IntKind.max, IntKind.signed, IntKind.bits] at h1 h2
  omega
theorem u16_bd {z : Int} (h1 : IntKind.u16.min ≤ z) (h2 : z ≤ IntKind.u16.max) : 0 ≤ z ∧ z ≤ 65535 := by
  simp [IntKind.min, IntKind.max, IntKind.signed, IntKind.bits] at h1 h2
  omega
theorem u32_bd {z : Int} (h1 : IntKind.u32.min ≤ z) (h2 : z ≤ IntKind.u32.max) : 0 ≤ z ∧ z ≤ 4294967295 := by
  simp [IntKind.min, IntKind.max, IntKind.signed, IntKind.bits] at h1 h2
  omega
theorem u64_bd {z : Int} (h1 : IntKind.u64.min ≤ z) (h2 : z ≤ IntKind.u64.max) : 0 ≤ z ∧ z ≤ 18446744073709551615 := by
  simp [IntKind.min, IntKind.max, IntKind.signed, IntKind.bits] at h1 h2
  omega
theorem i64_bd {z : Int} (h1 : IntKind.i64.min ≤ z) (h2 : z ≤ IntKind.i64.max) : -9223372036854775808 ≤ z ∧ z ≤ 9223372036854775807 := by
  simp [IntKind.min, IntKind.max, IntKind.signed, IntKind.bits] at h1 h2
  omega
theorem Is.i64 {d : DV} (h : Is tI d) : ∃ z, d = .int .i64 z ∧ -9223372036854775808 ≤ z ∧ z ≤ 9223372036854775807 := by
  obtain ⟨z, e, h1, h2⟩ := h.int
  exact ⟨z, e, i64_bd h1 h2⟩
theorem Is.u32 {d : DV} (h : Is tU32 d) : ∃ z, d = .int .u32 z ∧ 0 ≤ z ∧ z ≤ 4294967295 := by
  obtain ⟨z, e, h1, h2⟩ := h.int
  exact ⟨z, e, u32_bd h1 h2⟩
theorem Is.u64 {d : DV} (h : Is tU64 d) : ∃ z, d = .int .u64 z ∧ 0 ≤ z ∧ z ≤ 18446744073709551615 := by
  obtain ⟨z, e, h1, h2⟩ := h.int
  exact ⟨z, e, u64_bd h1 h2⟩
theorem Is.u16 {d : DV} (h : Is (.int .u16) d) : ∃ z, d = .int .u16 z ∧ 0 ≤ z ∧ z ≤ 65535 := by
  obtain ⟨z, e, h1, h2⟩ := h.int
  exact ⟨z, e, u16_bd h1 h2⟩
/-- Numbers that are bytes. -/
def AreB (l : List Int) : Prop := ∀ z ∈ l, 0 ≤ z ∧ z ≤ 255
theorem Is.ints {d : DV} (h : Is tB d) : ∃ l : List Int, d = .list (bytesI l) ∧ AreB l ∧ l.length ≤ maxLen := by
  obtain ⟨bs, rfl, h2⟩ := h.bytes
  refine ⟨bs.map fun b => (b.toNat : Int), ?_, ?_, by simpa using h2⟩
  · simp only [dBs, bytesI, dB, List.map_map]
    rfl
  · intro z hz
    obtain ⟨b, _, rfl⟩ := List.mem_map.1 hz
    have := b.toNat_lt
    omega
theorem areB_str (s : ByteArray) : AreB (strI s) := by
  intro z hz
  obtain ⟨b, _, rfl⟩ := List.mem_map.1 hz
  have := b.toNat_lt
  omega
theorem bytesD_I (t : ByteArray) : bytesD (.str t) = .list (bytesI (strI t)) := by
  simp [bytesD, bytesI, strI]
theorem textD_I (l : List Int) : textD (.list (bytesI l)) = .str (textI l) := by
  simp only [textD, bytesI, textI, List.map_map]
  rfl
theorem len_bytesI (l : List Int) : (bytesI l).length = l.length := by simp [bytesI]
theorem len_strI (t : ByteArray) : (strI t).length = t.size := by simp [strI]
theorem den_row (R : Rho) (e : SX) : den R (.row [e]) = .list [[den R e]] := rfl
theorem cat_I (R : Rho) {x y : SX} {a b : List Int} (hx : den R x = .list (bytesI a)) (hy : den R y = .list (bytesI b)) : den R (.cat x y) = .list (bytesI (a ++ b)) := by
  simp only [den, hx, hy, catD, bytesI, List.map_append]
theorem row_I (R : Rho) {x : SX} {z : Int} (hx : den R x = .int .u8 z) : den R (.row [x]) = .list (bytesI [z]) := by
  rw [den_row, hx]; rfl
theorem emp_I (R : Rho) : den R .emp = .list (bytesI []) := rfl
theorem row_cons (R : Rho) {x y : SX} {z : Int} {b : List Int} (hx : den R x = .int .u8 z) (hy : den R y = .list (bytesI b)) : den R (.cat (.row [x]) y) = .list (bytesI (z :: b)) := cat_I R (row_I R hx) hy
theorem bytes_I (R : Rho) {x : SX} {t : ByteArray} (hx : den R x = .str t) : den R (.bytes x) = .list (bytesI (strI t)) := by
  simp only [den, hx, bytesD_I]
theorem text_I (R : Rho) {x : SX} {l : List Int} (hx : den R x = .list (bytesI l)) : den R (.text x) = .str (textI l) := by
  simp only [den, hx, textD_I]
theorem len_le (R : Rho) {x : SX} {a : List Int} (hx : den R x = .list (bytesI a)) (hl : a.length ≤ 1000000) : den R (lss (k64 1000000) (.len x)) = .bool false := by
  simp only [den, hx, lenD, binD, len_bytesI]
  simp
  omega
theorem len_le' {R : Rho} {k : Nat} {l : List Int} (hk : R.ρ k = .list (bytesI l)) (h : den R (lenOK k).1 = .bool (lenOK k).2) : l.length ≤ 1000000 := by
  simp only [lenOK, den, hk, lenD, binD, len_bytesI, DV.bool.injEq, decide_eq_false_iff_not] at h
  simp at h
  omega
/-- A number's shifted byte. -/
theorem shr_I (R : Rho) {x : SX} {k : IntKind} {s : Int} (hx : den R x = .int k s) (hs : 0 ≤ s) (n : Nat) (hn : n ≤ k.bits) : den R (.conv .u8 (.bin .shr x (.ki .i64 (.ofNat n)))) = .int .u8 (s / 2 ^ n % 256) := by
  have hm : min n k.bits = n := Nat.min_eq_left hn
  have hf : s.fdiv (2 ^ n) = s / 2 ^ n := Int.fdiv_eq_ediv_of_nonneg _ (Int.le_of_lt (Int.pow_pos (by omega)))
  simp [den, hx, binD, convD, hm, hf, wrap_u8]
theorem quo_I (R : Rho) {x : SX} {s : Int} (hx : den R x = .int .u64 s) (h0 : 0 ≤ s) (h1 : s ≤ 18446744073709551615) : den R (.bin .quo x (.ki .u64 (.ofNat 256))) = .int .u64 (s / 256) := by
  have : s.tdiv 256 = s / 256 := Int.tdiv_eq_ediv_of_nonneg h0
  simp only [den, hx, binD, wrap_u64]
  show DV.int _ (s.tdiv 256 % _) = _
  rw [this]
  congr 1
  omega
theorem rem_I (R : Rho) {x : SX} {s : Int} (hx : den R x = .int .u64 s) (h0 : 0 ≤ s) : den R (.conv .u8 (.bin .rem x (.ki .u64 (.ofNat 256)))) = .int .u8 (s % 256) := by
  have : s.tmod 256 = s % 256 := Int.tmod_eq_emod_of_nonneg h0
  simp only [den, hx, binD, convD, wrap_u8]
  show DV.int _ (s.tmod 256 % _) = _
  rw [this]
  congr 1
  omega
theorem spec_one [O : Orc] {P : Program} {G : Nat → Option (List AV)} {f : FuncId} {sp sp' : List AV → AHeap → Out} (h : CallOK P G (fun g args h => if g = f then sp args h else none)) (e : some sp = some sp') : CallOK P G (fun g args h => if g = f then sp' args h else none) := by
  cases e; exact h
/-- Contracts by a list. -/
abbrev SpecF := Orc → FuncId → Option (List AV → AHeap → Out)
structure Ent where
  f : FuncId
  sp : Orc → List AV → AHeap → Out
noncomputable def entS : List Ent → SpecF
  | [], _, _ => none
  | x :: l, O, f => match Nat.beq x.f f with
    | true => some (x.sp O)
    | false => entS l O f
/-- Each contract holds. -/
def EntsOK (P : Program) (G : Nat → Option (List AV)) (I : Nat → List DV → DV) : List Ent → Prop
  | [] => True
  | x :: l => (∀ O : Orc, O.I = I → @CallOK O P G (fun g args h => if g = x.f then x.sp O args h else none)) ∧ EntsOK P G I l
theorem entS_ok {P : Program} {G : Nat → Option (List AV)} {I : Nat → List DV → DV} : ∀ {l : List Ent}, EntsOK P G I l → ∀ O : Orc, O.I = I → @SpecOK O P G (entS l O)
  | [], _, O, _ => fun f sp h => by simp [entS] at h
  | x :: l, h, O, hI => fun f sp hs => by
    unfold entS at hs
    split at hs
    · rename_i e
      have e := Nat.eq_of_beq_eq_true e
      cases hs
      rw [← e]
      exact h.1 O hI
    · exact entS_ok h.2 O hI f sp hs
section
variable {P : Program} {G : Nat → Option (List AV)} {I : Nat → List DV → DV} {f : FuncId} {sg rs : Sig} {preS : List (SX × Bool)} {F : List DV → List (List DV)} {fid : Nat}
noncomputable def eFn (f : FuncId) (sg rs : Sig) (preS : List (SX × Bool)) (fid : Nat) (ts : List (Option (TypeId × List Ty)) := []) : Ent := ⟨f, fun O => iceSp ts (@symSp O sg rs preS fid)⟩
noncomputable def eOwn (f : FuncId) (sg : Sig) (el : TypeId) (ets : List Ty) (rs : Sig) (preS : List (SX × Bool)) (fid : Nat) (ts : List (Option (TypeId × List Ty)) := []) : Ent := ⟨f, fun O => iceSp ts (@symOwn O sg el ets rs preS fid)⟩
theorem eFn_ok (hG : PlainG G) (hf : FnOK P G f sg rs (fun ds => ∀ p ∈ preS, den (rhoOf I ds) p.1 = .bool p.2) F) (hI : ∀ ds, I fid ds = .list (F ds)) (ts : List (Option (TypeId × List Ty)))
    (hpre : preS.all (fun p => varsLt (Sig.len sg) p.1) = true) : ∀ O : Orc, O.I = I → @CallOK O P G (fun g args h => if g = (eFn f sg rs preS fid ts).f then (eFn f sg rs preS fid ts).sp O args h else none) := by
  rintro O rfl
  exact @iceSp_ok O P G f ts _ (@symSp_ok O P G f sg rs preS F fid hG hf hI hpre) hf.1
theorem eOwn_ok {el : TypeId} {ets : List Ty} (hG : PlainG G) (hf : FnOwn P G f sg el ets rs (fun ds => ∀ p ∈ preS, den (rhoOf I ds) p.1 = .bool p.2) F) (hI : ∀ ds, I fid ds = .list (F ds)) (ts : List (Option (TypeId × List Ty)))
    (hpre : preS.all (fun p => varsLt (Sig.len sg) p.1) = true) : ∀ O : Orc, O.I = I → @CallOK O P G (fun g args h => if g = (eOwn f sg el ets rs preS fid ts).f then (eOwn f sg el ets rs preS fid ts).sp O args h else none) := by
  rintro O rfl
  exact @iceSp_ok O P G f ts _ (@symOwn_ok O P G f sg rs el ets preS F fid hG hf hI hpre) hf.1
theorem pre_true {P : Program} {G : Nat → Option (List AV)} {f : FuncId} {sg rs : Sig} {F : List DV → List (List DV)} {Q : List DV → Prop} (h : FnOK P G f sg rs (fun _ => True) F) : FnOK P G f sg rs Q F :=
  ⟨h.1, fun E ds vs w hE hr _ hg => h.2 E ds vs w hE hr trivial hg⟩
end

/-! ## What names stand for, step by step -/
section
variable {R : Rho}
theorem d_v {i : Nat} {d : DV} (h : R.ρ i = d) : den R (.v i) = d := h
theorem d_k (k : IntKind) (n : Nat) : den R (.ki k (.ofNat n)) = .int k n := rfl
theorem d_lss {x y : SX} {k l : IntKind} {a b : Int} (hx : den R x = .int k a) (hy : den R y = .int l b) : den R (.bin .lss x y) = .bool (decide (a < b)) := by
  simp only [den, hx, hy, binD]
theorem d_eql {x y : SX} {k : IntKind} {a b : Int} (hx : den R x = .int k a) (hy : den R y = .int k b) : den R (.bin .eql x y) = .bool (decide (a = b)) := by
  simp only [den, hx, hy, binD]
  simp
theorem d_eqs {x y : SX} {a b : ByteArray} (hx : den R x = .str a) (hy : den R y = .str b) : den R (.bin .eql x y) = .bool (decide (a = b)) := by
  simp only [den, hx, hy, binD]
theorem d_lens {x : SX} {s : ByteArray} (hx : den R x = .str s) : den R (.len x) = .int .i64 s.size := by
  simp only [den, hx, lenD]
theorem d_lenI {x : SX} {l : List Int} (hx : den R x = .list (bytesI l)) : den R (.len x) = .int .i64 l.length := by
  simp only [den, hx, lenD, len_bytesI]
theorem d_lenL {x : SX} {l : List (List DV)} (hx : den R x = .list l) : den R (.len x) = .int .i64 l.length := by
  simp only [den, hx, lenD]
theorem d_add {x y : SX} {a b : Int} (hx : den R x = .int .i64 a) (hy : den R y = .int .i64 b) (h1 : -9223372036854775808 ≤ a + b) (h2 : a + b ≤ 9223372036854775807) : den R (.bin .add x y) = .int .i64 (a + b) := by
  simp only [den, hx, hy, binD, wrap_i64 h1 h2]
theorem d_sub {x y : SX} {a b : Int} (hx : den R x = .int .i64 a) (hy : den R y = .int .i64 b) (h1 : -9223372036854775808 ≤ a - b) (h2 : a - b ≤ 9223372036854775807) : den R (.bin .sub x y) = .int .i64 (a - b) := by
  simp only [den, hx, hy, binD, wrap_i64 h1 h2]
theorem d_u8 {x : SX} {k : IntKind} {z : Int} (hx : den R x = .int k z) : den R (.conv .u8 x) = .int .u8 (z % 256) := by
  simp only [den, hx, convD, wrap_u8]
theorem d_i64 {x : SX} {k : IntKind} {z : Int} (hx : den R x = .int k z) (h1 : -9223372036854775808 ≤ z) (h2 : z ≤ 9223372036854775807) : den R (.conv .i64 x) = .int .i64 z := by
  simp only [den, hx, convD, wrap_i64 h1 h2]
theorem d_u64 {x : SX} {k : IntKind} {z : Int} (hx : den R x = .int k z) (h1 : 0 ≤ z) (h2 : z ≤ 18446744073709551615) : den R (.conv .u64 x) = .int .u64 z := by
  simp only [den, hx, convD, wrap_u64]
  congr 1
  omega
theorem d_atI {x i : SX} {k : IntKind} {l : List Int} {z : Int} (hx : den R x = .list (bytesI l)) (hi : den R i = .int k z) (h0 : 0 ≤ z) (h1 : z < l.length) : den R (.at x i 0) = .int .u8 (l.getD z.toNat 0) := by
  have h2 : z.toNat < l.length := by omega
  simp only [den, hx, hi, atD, bytesI, List.getD_eq_getElem?_getD, List.getElem?_map, List.getElem?_eq_getElem h2, Option.map_some, Option.getD_some, List.getElem?_cons_zero]
theorem d_byte {x i : SX} {k : IntKind} {s : ByteArray} {z : Int} (hx : den R x = .str s) (hi : den R i = .int k z) (h0 : 0 ≤ z) (h1 : z < s.size) : den R (.byte x i) = .int .u8 ((strI s).getD z.toNat 0) := by
  have h2 : z.toNat < s.data.toList.length := by
    have : s.data.toList.length = s.size := by simp
    omega
  simp only [den, hx, hi, byteD, strI, List.getD_eq_getElem?_getD, List.getElem?_map, List.getElem?_eq_getElem h2, Option.map_some, Option.getD_some]
theorem d_cutI {x a b : SX} {k k' : IntKind} {l : List Int} {i j : Int} (hx : den R x = .list (bytesI l)) (ha : den R a = .int k i) (hb : den R b = .int k' j) : den R (.cut x a b) = .list (bytesI ((l.take j.toNat).drop i.toNat)) := by
  simp only [den, hx, ha, hb, cutD, bytesI, List.map_drop, List.map_take]
theorem d_cuts {x a b : SX} {k k' : IntKind} {s : ByteArray} {i j : Int} (hx : den R x = .str s) (ha : den R a = .int k i) (hb : den R b = .int k' j) : den R (.cut x a b) = .str (s.extract i.toNat j.toNat) := by
  simp only [den, hx, ha, hb, cutD]
theorem d_app {f : Nat} {es : List SX} : den R (.app f es) = R.I f (es.map (den R)) := by simp only [den, denL_map]
/-- A result of a contract. -/
theorem d_res {f : Nat} {es : List SX} {F : List DV → List (List DV)} {j k : Nat} {d : DV} (hI : R.I f (es.map (den R)) = .list (F (es.map (den R)))) (hd : ((F (es.map (den R))).getD j []).getD k (.bool false) = d) : den R (.at (.app f es) (.ki .i64 (.ofNat j)) k) = d := by
  rw [← hd]
  have : den R (.app f es) = .list (F (es.map (den R))) := by rw [d_app, hI]
  simp only [den] at this ⊢
  rw [this]
  rfl
end
theorem sub_get (R : Rho) (τ : List SX) (i : Nat) {d : DV} {e : SX} (he : τ[i]? = some e) (hd : den R e = d) : (R.sub τ).ρ i = d := by
  rw [sub_v]
  simp [List.getD_eq_getElem?_getD, he, hd]

/-! ## The sign's bit turned -/
theorem xor63 {b : Nat} (h : b < 2 ^ 63) : b ^^^ 2 ^ 63 = 2 ^ 63 + b := by
  apply Nat.eq_of_testBit_eq
  intro i
  rw [Nat.testBit_xor, Nat.testBit_two_pow]
  rcases Nat.lt_trichotomy i 63 with hi | hi | hi
  · rw [Nat.testBit_two_pow_add_gt hi]
    have : decide (63 = i) = false := by simp; omega
    rw [this, Bool.xor_false]
  · subst hi
    rw [Nat.testBit_two_pow_add_eq]
    simp
  · have h1 : b.testBit i = false := Nat.testBit_lt_two_pow (Nat.lt_of_lt_of_le h (Nat.pow_le_pow_right (by omega) (by omega)))
    have h2 : (2 ^ 63 + b).testBit i = false := Nat.testBit_lt_two_pow (Nat.lt_of_lt_of_le (show 2 ^ 63 + b < 2 ^ 64 by omega) (Nat.pow_le_pow_right (by omega) (by omega)))
    rw [h1, h2]
    simp
    omega
theorem xor63' {b : Nat} (h : b < 2 ^ 63) : (2 ^ 63 + b) ^^^ 2 ^ 63 = b := by
  rw [← xor63 h, Nat.xor_assoc, Nat.xor_self, Nat.xor_zero]
theorem d_xor63 {R : Rho} {x : SX} {n : Int} (hx : den R x = .int .i64 n) (h1 : -9223372036854775808 ≤ n) (h2 : n ≤ 9223372036854775807) : den R (.bin .xor (.conv .u64 x) (.ki .u64 (.ofNat 9223372036854775808))) = .int .u64 (n + 9223372036854775808) := by
  have hc : den R (.conv .u64 x) = .int .u64 (n % 18446744073709551616) := by simp only [den, hx, convD, wrap_u64]
  have key : (BitVec.ofInt 64 (n % 18446744073709551616) ^^^ BitVec.ofInt 64 9223372036854775808).toNat = (n + 9223372036854775808).toNat := by
    rw [BitVec.toNat_xor, BitVec.toNat_ofInt, BitVec.toNat_ofInt]
    have e2 : ((9223372036854775808 : Int) % ((2 ^ 64 : Nat) : Int)).toNat = 2 ^ 63 := by decide
    have e1 : ((n % 18446744073709551616) % ((2 ^ 64 : Nat) : Int)).toNat = (n % 18446744073709551616).toNat := by
      congr 1
      have : (((2 ^ 64 : Nat) : Int)) = 18446744073709551616 := by decide
      rw [this]
      omega
    rw [e1, e2]
    by_cases hn : 0 ≤ n
    · have : (n % 18446744073709551616).toNat = n.toNat := by omega
      rw [this, xor63 (by omega)]
      omega
    · have : (n % 18446744073709551616).toNat = 2 ^ 63 + (n + 9223372036854775808).toNat := by omega
      rw [this, xor63' (by omega)]
  simp only [den] at hc
  simp only [den, hc, binD, bitsD]
  show DV.int .u64 (IntKind.u64.wrap ((BitVec.ofInt 64 (n % 18446744073709551616) ^^^ BitVec.ofInt 64 9223372036854775808).toNat : Int)) = _
  rw [key, wrap_u64]
  congr 1
  omega
end Go.AM
namespace Go.AM
open Go

/-! ## Lists of rows -/
abbrev tV : List Ty := [tI, tI, .str]
/-- A value's cells. -/
def IsV (r : List DV) : Prop := ∃ k n s, r = [.int .i64 k, .int .i64 n, .str s] ∧ -9223372036854775808 ≤ n ∧ n ≤ 9223372036854775807 ∧ s.size ≤ maxLen
theorem isV_of {r : List DV} (h1 : r.length = tV.length) (h2 : ∀ (j : Nat) (t : Ty) (d : DV), tV[j]? = some t → r[j]? = some d → Is t d) : IsV r := by
  obtain ⟨a, r1, rfl⟩ := List.exists_cons_of_length_eq_add_one (show r.length = 2 + 1 from h1)
  obtain ⟨b, r2, rfl⟩ := List.exists_cons_of_length_eq_add_one (show r1.length = 1 + 1 by simpa using h1)
  obtain ⟨c, r3, rfl⟩ := List.exists_cons_of_length_eq_add_one (show r2.length = 0 + 1 by simpa using h1)
  have : r3 = [] := List.length_eq_zero_iff.1 (by simpa using h1)
  subst this
  obtain ⟨k, rfl, _⟩ := (h2 0 tI a rfl rfl).i64
  obtain ⟨n, rfl, n1, n2⟩ := (h2 1 tI b rfl rfl).i64
  obtain ⟨s, rfl, hs⟩ := (h2 2 .str c rfl rfl).str
  exact ⟨k, n, s, rfl, n1, n2, hs⟩
theorem Is.vals {d : DV} (h : Is (.slice tV) d) : ∃ l, d = .list l ∧ l.length ≤ maxLen ∧ ∀ r ∈ l, IsV r := by
  obtain ⟨l, rfl, h2, h3⟩ := h.list
  exact ⟨l, rfl, h2, fun r hr => isV_of (h3 r hr).1 (h3 r hr).2⟩
/-- A row of a list of lists of values. -/
def IsR (r : List DV) : Prop := ∃ lv, r = [.list lv] ∧ lv.length ≤ maxLen ∧ ∀ q ∈ lv, IsV q
theorem Is.rows {d : DV} (h : Is (.slice [.slice tV]) d) : ∃ l, d = .list l ∧ l.length ≤ maxLen ∧ ∀ r ∈ l, IsR r := by
  obtain ⟨l, rfl, h2, h3⟩ := h.list
  refine ⟨l, rfl, h2, fun r hr => ?_⟩
  obtain ⟨q1, q2⟩ := h3 r hr
  obtain ⟨x, rfl⟩ := List.length_eq_one_iff.1 (by simpa using q1 : r.length = 1)
  obtain ⟨lv, rfl, k1, k2⟩ := (q2 0 _ x rfl rfl).vals
  exact ⟨lv, rfl, k1, k2⟩
section
variable {R : Rho}
theorem d_at {x i : SX} {k : IntKind} {l : List (List DV)} {z : Int} (c : Nat) (hx : den R x = .list l) (hi : den R i = .int k z) : den R (.at x i c) = (l.getD z.toNat []).getD c (.bool false) := by
  simp only [den, hx, hi, atD]
theorem getD_lt {α : Type} {l : List α} {n : Nat} {d : α} (h : n < l.length) : l.getD n d = l[n] := by
  simp [List.getD_eq_getElem?_getD, List.getElem?_eq_getElem h]
open Classical in
/-- Two values, cell by cell. -/
theorem d_allV {a1 a2 a3 b1 b2 b3 : SX} {x y : List DV} (hx : IsV x) (hy : IsV y) (e1 : den R a1 = x.getD 0 (.bool false)) (e2 : den R a2 = x.getD 1 (.bool false)) (e3 : den R a3 = x.getD 2 (.bool false))
    (f1 : den R b1 = y.getD 0 (.bool false)) (f2 : den R b2 = y.getD 1 (.bool false)) (f3 : den R b3 = y.getD 2 (.bool false)) :
    den R (.all [eql a1 b1, eql a2 b2, eql a3 b3]) = .bool (decide (x = y)) := by
  obtain ⟨k, n, s, rfl, _⟩ := hx
  obtain ⟨k', n', s', rfl, _⟩ := hy
  have g1 := d_eql (x := a1) (y := b1) e1 f1
  have g2 := d_eql (x := a2) (y := b2) e2 f2
  have g3 := d_eqs (x := a3) (y := b3) e3 f3
  have : den R (.all [eql a1 b1, eql a2 b2, eql a3 b3]) = .bool (isT (den R (eql a1 b1)) && (isT (den R (eql a2 b2)) && (isT (den R (eql a3 b3)) && true))) := rfl
  rw [this, g1, g2, g3]
  simp only [isT, Bool.and_true]
  congr 1
  rw [Bool.eq_iff_iff]
  simp only [Bool.and_eq_true, decide_eq_true_eq, List.cons.injEq, DV.int.injEq, DV.str.injEq, true_and, and_true]
end
theorem drop_step {α : Type} {a b : List α} {i : Nat} (ha : i < a.length) (hb : i < b.length) : a.drop i = b.drop i ↔ a[i] = b[i] ∧ a.drop (i + 1) = b.drop (i + 1) := by
  rw [List.drop_eq_getElem_cons ha, List.drop_eq_getElem_cons hb, List.cons.injEq]
theorem toNat_succ {i : Int} (h : 0 ≤ i) : (i + 1).toNat = i.toNat + 1 := by omega
theorem take_succ_get {α : Type} {l : List α} {i : Nat} (h : i < l.length) : l.take (i + 1) = l.take i ++ [l[i]] := by
  rw [List.take_succ, List.getElem?_eq_getElem h]; rfl
end Go.AM
namespace Go.AM
open Go

/-! ## Calls by templates: what a function does to blocks of its caller's -/
noncomputable def stArgs (args : List AV) (h : AHeap) : St := { tm := argsTr 0 args .nil, n := args.length, h }
/-- A call, seen from a template: the temporaries are the arguments; behind it temporary 0 is the result. -/
noncomputable def callT [O : Orc] (L : LoopSp) (args : List AV) (h : AHeap) : Out :=
  match runLoop L (stArgs args h) with
  | some (_, s) => some (tmV s.tm 0, s.h)
  | none => none
/-- WHAT A FUNCTION DOES, seen from a template. -/
def CallTOK (P : Program) (G : Nat → Option (List AV)) (I : Nat → List DV → DV) (f : FuncId) (L : LoopSp) : Prop :=
  HasBody P f ∧ ∀ (m : Env) (a : Act) (w : World), (∀ id, m.dom id → namesB L.T.ob id = true ∨ namesO L.T.ow id = true) → (∀ id, ¬ m.res id) → @RS (noFacts I) plainR m G (L.T.st L.n) a w →
    (∀ p ∈ L.pre, den m.R p.1 = .bool p.2) → ∀ b, den m.R L.cnd = .bool b →
    Calls P f a.tmps w fun e w' => ∃ m' a', e = .returned (a'.tmps.getD 0 undef) ∧ m.lle (namesB L.T.ob) m' ∧ m'.R = m.R.sub (L.pick b).2.2 ∧ @RS (noFacts I) plainR m' G ((L.pick b).2.1.st L.n) a' w'
theorem tmV_eq (t : Tr AV) (i : Nat) : tmV t i = (t.get i).getD (.sc undef) := rfl
theorem callT_ok [O : Orc] {P : Program} {G : Nat → Option (List AV)} {f : FuncId} {L : LoopSp} (hG : PlainG G) (hL : CallTOK P G O.I f L) :
    CallOK P G (fun g args h => if g = f then callT L args h else none) := by
  intro g args h av h' hs
  simp only at hs
  split at hs <;> (try (cases hs; done))
  rename_i eg
  subst eg
  unfold callT at hs
  split at hs <;> (try (cases hs; done))
  rename_i e s' hrun
  cases hs
  unfold runLoop at hrun
  split at hrun <;> (try (cases hrun; done))
  rename_i ω τ s1 hh
  split at hrun <;> (try (cases hrun; done))
  rename_i hm
  simp only [Bool.and_eq_true, Nat.beq_eq] at hm
  obtain ⟨⟨hn, hm1⟩, hm2⟩ := hm
  split at hrun <;> (try (cases hrun; done))
  rename_i b hb
  split at hrun <;> (try (cases hrun; done))
  rename_i hok
  simp only [Option.some.injEq, Prod.mk.injEq] at hrun
  obtain ⟨rfl, rfl⟩ := hrun
  refine ⟨hL.1, fun m vs w hl hr hg => ?_⟩
  have hvl := VL_length hl
  simp only [Array.length_toList] at hvl
  have hr0 : @RS O plainR m G (stArgs args h) { tmps := vs, defers := [] } w := by
    refine ⟨hvl, fun t => ?_, rfl, fun _ => rfl, hr, hg⟩
    simp only [stArgs, argsTr_get]
    by_cases ht : t < args.length
    · obtain ⟨v, h1, h2⟩ := VL_get hl t args[t] (by simp [ht])
      rw [List.getElem?_eq_getElem ht, Option.getD_some]
      have : vs.getD t undef = v := by
        have : vs[t]? = some v := by simpa using h1
        simp only [Array.getD_eq_getD_getElem?, this]
        rfl
      rw [this]
      exact h2
    · rw [List.getElem?_eq_none (by omega)]
      simp only [Option.getD_none, V]
      simp only [Array.getD_eq_getD_getElem?]
      rw [Array.getElem?_eq_none (by omega)]
      rfl
  obtain ⟨m1, hle1, hr1⟩ := headOf_sound hr0 hh
  have hmt := matched_of hm1
  have hin := RS.into (O := O) (l2 := fun _ => none) (I2 := O.I) hG hr1 hmt (by rw [← hr1.g.f.1]; exact noFacts_ok (m1.R.sub τ))
  rw [hn] at hin
  refine (hL.2 (m1.inner (m1.R.sub τ) L.T ω w) _ w (fun _ h => h) (fun _ h => h) hin (allKnown_sound hr1.g.f hm2) b ?_).mono ?_
  · show den (m1.R.sub τ) L.cnd = _
    rw [← den_subst]
    exact look_den hr1.g.f hb
  · rintro e w' ⟨m', a', rfl, hle, hR, hr'⟩
    have hR' : m'.R = m1.R.sub ((L.pick b).2.2.map (subst τ)) := by rw [hR, ← sub_sub]; rfl
    obtain ⟨g1, g2⟩ := RS.outof (O := O) (l2 := fun _ => none) (I2 := O.I) hr1 hmt hok hle (by rw [hn]; exact hr') hR'
    exact ⟨_, _, rfl, hle1.trans g1, g2.tm 0, g2.h⟩

/-- The arguments of a template. -/
noncomputable def argsFrom (t : Tr AV) (i : Nat) : Nat → List AV
  | 0 => []
  | n + 1 => tmV t i :: argsFrom t (Nat.succ i) n
noncomputable def argsOf (L : LoopSp) : List AV := argsFrom (L.T.st L.n).tm 0 L.n
noncomputable def resSt (n : Nat) (av : AV) (h : AHeap) : St := { tm := (Tr.nil : Tr AV).put 0 av, n, h }
noncomputable def checkCallT (L : LoopSp) (run : List (SX × Bool) → List AV → AHeap → Out) : List (SX × Bool) → RPln → Bool
  | facts, .ask e t f => checkCallT L run ((e, true) :: facts) t && checkCallT L run ((e, false) :: facts) f
  | facts, .know e b p => checkCallT L run ((e, b) :: facts) p
  | _, .next _ => false
  | facts, .exit b τ => match run facts (argsOf L) (L.T.st L.n).h with
    | some (av, h') => atHead (L.pick b).2.1 L.n τ (resSt L.n av h')
    | none => false
  | _, .never => true

theorem callT_leaf {L : LoopSp} {run : List (SX × Bool) → List AV → AHeap → Out} {R : Rho} : ∀ {p : RPln} {facts : List (SX × Bool)}, (∀ q ∈ facts, den R q.1 = .bool q.2) → checkCallT L run facts p = true → goalRound L (fun _ => False) (fun _ => 0) R p →
    ∃ facts', (∀ q ∈ facts', den R q.1 = .bool q.2) ∧ ∃ b τ av h', run facts' (argsOf L) (L.T.st L.n).h = some (av, h') ∧ atHead (L.pick b).2.1 L.n τ (resSt L.n av h') = true ∧ den R L.cnd = .bool b ∧ τ.map (den R) = (L.pick b).2.2.map (den R)
  | .ask e t f, facts, hf, hc, hg => by
    simp only [checkCallT, Bool.and_eq_true] at hc
    obtain ⟨⟨b, hb⟩, h1, h2⟩ := hg
    cases b with
    | true => exact callT_leaf (facts := (e, true) :: facts) (fun q hq => by rcases List.mem_cons.1 hq with rfl | hq; exact hb; exact hf q hq) hc.1 (h1 hb)
    | false => exact callT_leaf (facts := (e, false) :: facts) (fun q hq => by rcases List.mem_cons.1 hq with rfl | hq; exact hb; exact hf q hq) hc.2 (h2 hb)
  | .know e b p, facts, hf, hc, hg => callT_leaf (facts := (e, b) :: facts) (fun q hq => by rcases List.mem_cons.1 hq with rfl | hq; exact hg.1; exact hf q hq) hc hg.2
  | .next τ, facts, hf, hc, hg => hg.1.elim
  | .exit b τ, facts, hf, hc, hg => by
    simp only [checkCallT] at hc
    split at hc
    · rename_i av h' hrun
      exact ⟨facts, hf, b, τ, av, h', hrun, hc, hg.1, hg.2⟩
    · cases hc
  | .never, _, _, _, hg => hg.elim

theorem argsFrom_V [O : Orc] {m : Env} {t : Tr AV} {a : Act} (ht : ∀ i, V m ((t.get i).getD (.sc undef)) (a.tmps.getD i undef)) : ∀ (n i : Nat), i + n = a.tmps.size → VL m (argsFrom t i n) (a.tmps.toList.drop i)
  | 0, i, h => by
    simp only [argsFrom, VL]
    exact List.drop_eq_nil_of_le (by simp; omega)
  | n + 1, i, h => by
    have hi : i < a.tmps.toList.length := by simp; omega
    simp only [argsFrom, VL]
    refine ⟨a.tmps.toList[i], a.tmps.toList.drop (i + 1), List.drop_eq_getElem_cons hi, ?_, argsFrom_V ht n (i + 1) (by omega)⟩
    have := ht i
    have e : a.tmps.getD i undef = a.tmps.toList[i] := by
      have : i < a.tmps.size := by omega
      simp [Array.getD, this]
    rw [e] at this
    exact this

/-- A FUNCTION's CONTRACT from a template, by a plan. -/
theorem callT_plan {P : Program} {G : Nat → Option (List AV)} {I : Nat → List DV → DV} (hG : PlainG G) {f : FuncId} {L : LoopSp} (hb : HasBody P f) (hn : 1 ≤ L.n) (call : Orc → CallF)
    (hcall : ∀ O : Orc, O.I = I → @CallOK O P G (fun g args h => if g = f then call O g args h else none)) (p : RPln)
    (hok : (L.yes.2.1.ok L.T L.n && L.no.2.1.ok L.T L.n && checkCallT L (fun facts => call (mkO facts I) f) [] p) = true) (inv : Rho → Prop)
    (init : ∀ m a w, @RS (noFacts I) plainR m G (L.T.st L.n) a w → (∀ p ∈ L.pre, den m.R p.1 = .bool p.2) → inv m.R)
    (step : ∀ R, R.I = I → inv R → goalRound L (fun _ => False) (fun _ => 0) R p) : CallTOK P G I f L := by
  rw [Bool.and_eq_true] at hok
  obtain ⟨hok1, hchk⟩ := hok
  have hok' : ∀ b, (L.pick b).2.1.ok L.T L.n = true := by
    simp only [Bool.and_eq_true] at hok1
    intro b
    cases b
    · exact hok1.2
    · exact hok1.1
  refine ⟨hb, fun m a w hdom hres hr hpre b hcb => ?_⟩
  have hRI : m.R.I = I := by obtain ⟨_, _, _, _, _, _, y, _⟩ := hr; exact y
  obtain ⟨facts, hf, b', τ, av, h', hrun, hat, hb', hden⟩ := callT_leaf (R := m.R) (facts := []) (by simp) hchk (step m.R hRI (init m a w hr hpre))
  rw [hcb] at hb'
  cases hb'
  obtain ⟨z1, z2, z3, zr, z4, z5, _⟩ := hr
  have hg2 : @GOK (mkO facts I) m G := @GOK.mk (mkO facts I) _ _ z5 (mkO_ok hRI hf)
  have hV : VL m (argsOf L) a.tmps.toList := by
    have := argsFrom_V (O := mkO facts I) z2 L.n 0 (by rw [z1]; show 0 + L.n = L.n; omega)
    rwa [List.drop_zero] at this
  have hcl := (hcall (mkO facts I) rfl f (argsOf L) (L.T.st L.n).h av h' (by simp only [if_true]; exact hrun)).2 m a.tmps w hV z4 hg2
  refine hcl.mono ?_
  rintro e w1 ⟨v, m1, rfl, hle, hv, hh⟩
  have hg1 : @GOK (mkO facts I) m1 G := @GOK.mono (mkO facts I) _ _ _ hle hg2
  have h0v : (#[v] ++ Array.replicate (L.n - 1) undef).getD 0 undef = v := by
    simp only [Array.getD_eq_getD_getElem?]
    rw [Array.getElem?_append_left (by simp)]
    rfl
  have hr1 : @RS (mkO facts I) plainR m1 G (resSt L.n av h') { tmps := #[v] ++ Array.replicate (L.n - 1) undef, defers := [] } w1 := by
    refine @RS.mk (mkO facts I) plainR _ _ _ _ _ ?_ (fun t => ?_) rfl (fun _ => rfl) hh hg1
    · simp only [Array.size_append, Array.size_replicate, List.size_toArray, List.length_cons, List.length_nil, resSt]
      omega
    · simp only [resSt, Tr.get_put]
      by_cases ht : 0 = t
      · subst ht
        simp only [if_true, Option.getD_some]
        rw [h0v]
        exact hv
      · rw [if_neg ht]
        have : (Tr.nil : Tr AV).get t = none := rfl
        rw [this]
        simp only [Option.getD_none, V, Array.getD_eq_getD_getElem?]
        rw [Array.getElem?_append_right (by simp; omega), Array.getElem?_replicate]
        split <;> rfl
  obtain ⟨ω, s2, hhd, hex⟩ := atHead_spec hat
  have fok : ∀ τ, @FactsOK (noFacts I) (m.R.sub τ) := fun τ => by
    have := noFacts_ok (m.R.sub τ)
    rw [show (m.R.sub τ).I = I from hRI] at this
    exact this
  simp only [Bool.and_eq_true, Nat.beq_eq] at hex
  obtain ⟨h1, h2⟩ := hex
  obtain ⟨m2, hle2, hr2⟩ := headOf_sound (O := mkO facts I) hr1 hhd
  have hmt := matched_of (O := mkO facts I) h2
  have hRe : m2.R = m.R := hle2.R.trans hle.R
  have hin := @RS.into (mkO facts I) G m2 s2 _ w1 _ τ ω (fun _ => none) I hG hr2 hmt (by rw [hRe]; exact fok τ)
  rw [h1] at hin
  have hcov : ∀ id, namesB L.T.ob id = true → namesB (L.pick b).2.1.ob id = true := fun id hid => by
    obtain ⟨b0, h0⟩ := namesB_iff.1 hid
    have := hok' b
    simp only [Tmpl.ok, Bool.and_eq_true] at this
    exact covers_get this.1.2 h0
  have hl2 := lle_inner (O := mkO facts I) (R' := m2.R.sub τ) hr2 hmt (hle.trans hle2) hcov
  refine ⟨_, _, ?_, hl2, ?_, hin⟩
  · rw [h0v]
  · show m2.R.sub τ = _
    rw [hRe]
    unfold Rho.sub
    rw [hden]
/-- Contracts of a function, from several templates. -/
noncomputable def eCallT (f : FuncId) (Ls : List LoopSp) : Ent := ⟨f, fun O args h => firstO Ls fun L => @callT O L args h⟩
theorem eCallT_ok {P : Program} {G : Nat → Option (List AV)} {I : Nat → List DV → DV} {f : FuncId} {Ls : List LoopSp} (hG : PlainG G) (hL : ∀ L ∈ Ls, CallTOK P G I f L) :
    ∀ O : Orc, O.I = I → @CallOK O P G (fun g args h => if g = (eCallT f Ls).f then (eCallT f Ls).sp O args h else none) := by
  rintro O rfl g args h av h' hs
  simp only at hs
  split at hs <;> (try (cases hs; done))
  rename_i e
  obtain ⟨L, hm, hs⟩ := firstO_some hs
  exact @callT_ok O P G g L hG (e ▸ hL L hm) g args h av h' (by simp only [if_true]; exact hs)
end Go.AM
namespace Go.AM
open Go

/-! ## Loops, the plain way: the variables are a list of data, and what a loop does is one function of it -/
noncomputable def varsL : Nat → Nat → List SX
  | _, 0 => []
  | b, n + 1 => .v b :: varsL (Nat.succ b) n
def rhoL (ρ : Nat → DV) : Nat → Nat → List DV
  | _, 0 => []
  | b, n + 1 => ρ b :: rhoL ρ (b + 1) n
theorem varsL_den (R : Rho) : ∀ n b : Nat, (varsL b n).map (den R) = rhoL R.ρ b n
  | 0, _ => rfl
  | n + 1, b => by simp only [varsL, rhoL, List.map_cons, den, varsL_den R n]
theorem rhoL_length (ρ : Nat → DV) : ∀ n b : Nat, (rhoL ρ b n).length = n
  | 0, _ => rfl
  | n + 1, b => by simp only [rhoL, List.length_cons, rhoL_length ρ n]
theorem rhoL_get (ρ : Nat → DV) : ∀ (n b i : Nat), i < n → (rhoL ρ b n)[i]? = some (ρ (b + i))
  | n + 1, b, 0, _ => rfl
  | n + 1, b, i + 1, h => by
    simp only [rhoL, List.getElem?_cons_succ]
    rw [rhoL_get ρ n (b + 1) i (by omega)]
    congr 2
    omega
theorem rhoL_getD (l : List DV) (d : DV) : rhoL (fun i => l.getD i d) 0 l.length = l := by
  refine List.ext_getElem? fun i => ?_
  by_cases h : i < l.length
  · rw [rhoL_get _ _ _ _ h]
    simp [List.getD_eq_getElem?_getD, List.getElem?_eq_getElem h]
  · rw [List.getElem?_eq_none (by rw [rhoL_length]; omega), List.getElem?_eq_none (by omega)]
theorem rhoL_congr {ρ ρ' : Nat → DV} : ∀ {n b : Nat}, (∀ i, i < n → ρ (b + i) = ρ' (b + i)) → rhoL ρ b n = rhoL ρ' b n
  | 0, _, _ => rfl
  | n + 1, b, h => by
    simp only [rhoL]
    have h1 : ρ b = ρ' b := h 0 (by omega)
    have h2 : ∀ i, i < n → ρ (b + 1 + i) = ρ' (b + 1 + i) := fun i hi => by
      have := h (i + 1) (by omega)
      rwa [show b + (i + 1) = b + 1 + i by omega] at this
    rw [h1, rhoL_congr h2]

/-! ### the types of a template's variables -/
noncomputable def isVar (i : Nat) (ty : Ty) (a : AV) : Bool := match a with
  | .sy t (.v j) => eqTy t ty && Nat.beq j i
  | _ => false
noncomputable def ownTy (T : Tmpl) (i : Nat) (a : AV) : Option Ty := match a with
  | .own id ts (.v j) => match (T.st 0).h.t.get id with
    | some (.grow _ us (.v k)) => match Nat.beq j i && Nat.beq k i && eqTy.eqTys us ts with
      | true => some (.slice ts)
      | false => none
    | _ => none
  | _ => none
noncomputable def mapTy (T : Tmpl) (i : Nat) (a : AV) : Option Ty := match a with
  | .hnd 2 id => match (T.st 0).h.t.get id with
    | some (.grow _ us (.v k)) => match Nat.beq k i with
      | true => some (.slice us)
      | false => none
    | _ => none
  | _ => none
noncomputable def cellAt (T : Tmpl) (id k : Nat) : AV := match (T.st 0).h.t.get id with
  | some (.blk b) => match Nat.blt k b.n with
    | true => b.cell k
    | false => .dead
  | some (.loop _ _ tm _ _ _ _) => tmV tm k
  | _ => .dead
noncomputable def srcTy (T : Tmpl) (n i : Nat) : Src → Option Ty
  | .tm t ty => match isVar i ty (tmV (mkTm n T.tm) t) with
    | true => some ty
    | false => none
  | .cell id k ty => match isVar i ty (cellAt T id k) with
    | true => some ty
    | false => none
  | .row _ _ _ => none
  | .part t k ty => match tmV (mkTm n T.tm) t with
    | .agg cs => match cs[k]? with
      | some a => match isVar i ty a with
        | true => some ty
        | false => none
      | none => none
    | _ => none
  | .own k => match T.osrc[k]? with
    | some (.tm t _ _) => ownTy T i (tmV (mkTm n T.tm) t)
    | some (.cell id k _ _) => ownTy T i (cellAt T id k)
    | some (.mp t) => mapTy T i (tmV (mkTm n T.tm) t)
    | none => none
noncomputable def srcTys (T : Tmpl) (n : Nat) : Nat → List Src → Option (List Ty)
  | _, [] => some []
  | i, s :: l => match srcTy T n i s, srcTys T n (Nat.succ i) l with
    | some t, some ts => some (t :: ts)
    | _, _ => none
theorem isVar_eq {i : Nat} {ty : Ty} {a : AV} (h : isVar i ty a = true) : a = .sy ty (.v i) := by
  unfold isVar at h
  split at h
  · rw [Bool.and_eq_true] at h
    rw [eqTy_eq h.1, Nat.eq_of_beq_eq_true h.2]
  · cases h
section
variable [O : Orc] {G : Nat → Option (List AV)} {m : Env} {T : Tmpl} {n : Nat} {a : Act} {w : World}
theorem ownTy_is {i : Nat} {av : AV} {ty : Ty} {v : Value} (hr : @RS O plainR m G (T.st n) a w) (h : ownTy T i av = some ty) (hv : V m av v) : Is ty (m.R.ρ i) := by
  unfold ownTy at h
  split at h <;> (try (cases h; done))
  rename_i id ts j
  split at h <;> (try (cases h; done))
  rename_i el us k hg
  split at h <;> (try (cases h; done))
  rename_i hb
  cases h
  simp only [Bool.and_eq_true] at hb
  obtain ⟨⟨h1, h2⟩, h3⟩ := hb
  have h1 := Nat.eq_of_beq_eq_true h1
  have h2 := Nat.eq_of_beq_eq_true h2
  have h3 := eqTys_eq h3
  subst h1 h2 h3
  exact is_own hr.h hv hg
theorem cellAt_V {id k : Nat} (hr : @RS O plainR m G (T.st n) a w) : ∃ v, V m (cellAt T id k) v := by
  unfold cellAt
  split
  · rename_i b hb
    split
    · rename_i hk
      obtain ⟨_, _, c, _, _, h3, _⟩ := hr.h.obj id _ hb
      obtain ⟨v, _, h4⟩ := h3 k (Nat.le_of_ble_eq_true hk)
      exact ⟨v, h4⟩
    · exact ⟨undef, by simp [V]⟩
  · rename_i hb
    obtain ⟨_, _, _, _, _, h3⟩ := (hr.h.obj id _ hb).2.2
    exact ⟨_, h3 k⟩
  · exact ⟨undef, by simp [V]⟩
theorem mapTy_is {i : Nat} {av : AV} {ty : Ty} {v : Value} (hr : @RS O plainR m G (T.st n) a w) (h : mapTy T i av = some ty) (hv : V m av v) : Is ty (m.R.ρ i) := by
  unfold mapTy at h
  split at h <;> (try (cases h; done))
  rename_i id
  split at h <;> (try (cases h; done))
  rename_i el us k hg
  split at h <;> (try (cases h; done))
  rename_i hb
  cases h
  have hb := Nat.eq_of_beq_eq_true hb
  subst hb
  exact is_map hr.h hv hg
theorem srcTy_is {i : Nat} {s : Src} {ty : Ty} (hr : @RS O plainR m G (T.st n) a w) (h : srcTy T n i s = some ty) : Is ty (m.R.ρ i) := by
  cases s with
  | tm t ty' =>
    simp only [srcTy] at h
    split at h <;> (try (cases h; done))
    rename_i hb
    cases h
    have h2 := hr.tm t
    have h1 : ((T.st n).tm.get t).getD (.sc undef) = .sy ty (.v i) := isVar_eq hb
    rw [h1] at h2
    exact ⟨m, _, h2⟩
  | cell id k ty' =>
    simp only [srcTy] at h
    split at h <;> (try (cases h; done))
    rename_i hb
    cases h
    obtain ⟨v, hv⟩ := cellAt_V (id := id) (k := k) hr
    rw [isVar_eq hb] at hv
    exact ⟨m, v, hv⟩
  | row id k ty' => cases h
  | part t k ty' =>
    simp only [srcTy] at h
    split at h <;> (try (cases h; done))
    rename_i cs hcs
    split at h <;> (try (cases h; done))
    rename_i a' ha
    split at h <;> (try (cases h; done))
    rename_i hb
    cases h
    have h2 := hr.tm t
    have h1 : ((T.st n).tm.get t).getD (.sc undef) = .agg cs := hcs
    rw [h1] at h2
    simp only [V] at h2
    obtain ⟨xs, _, hl⟩ := h2
    obtain ⟨v, _, hv⟩ := VL_get hl k a' ha
    rw [isVar_eq hb] at hv
    exact ⟨m, v, hv⟩
  | own k =>
    simp only [srcTy] at h
    split at h
    · exact ownTy_is hr h (hr.tm _)
    · rename_i id k' _ _ _
      obtain ⟨v, hv⟩ := cellAt_V (id := id) (k := k') hr
      exact ownTy_is hr h hv
    · exact mapTy_is hr h (hr.tm _)
    · cases h
theorem srcTys_is (hr : @RS O plainR m G (T.st n) a w) : ∀ {l : List Src} {i : Nat} {tys : List Ty}, srcTys T n i l = some tys → IsL tys (rhoL m.R.ρ i l.length)
  | [], i, tys, h => by
    simp only [srcTys, Option.some.injEq] at h
    subst h
    rfl
  | s :: l, i, tys, h => by
    unfold srcTys at h
    split at h <;> (try (cases h; done))
    rename_i t ts h1 h2
    cases h
    exact ⟨_, _, rfl, srcTy_is hr h1, srcTys_is hr h2⟩
end

/-! ### contracts in this make -/
structure StdL where
  n : Nat
  T : Tmpl
  tys : List Ty
  pre : List (SX × Bool) := []
  f : Nat
  two : Bool := false
  keep : List Nat := []                             -- variables that stay: they come first among an end's names
  yes : Ex × Tmpl × Nat
  no : Ex × Tmpl × Nat := yes
noncomputable def resN (e : SX) : Nat → Nat → List SX
  | _, 0 => []
  | k, m + 1 => .at e (.ki .i64 (.ofNat 0)) k :: resN e (Nat.succ k) m
noncomputable def keepX : List Nat → List SX
  | [] => []
  | k :: ks => .v k :: keepX ks
noncomputable def keepOK (τ : List SX) : List Nat → Bool
  | [] => true
  | k :: ks => (match τ[k]? with
    | some e => eqSX e (.v k)
    | none => false) && keepOK τ ks
noncomputable def StdL.nv (S : StdL) : Nat := S.tys.length
noncomputable def StdL.app (S : StdL) : SX := .app S.f (varsL 0 S.nv)
noncomputable def StdL.cnd (S : StdL) : SX := match S.two with
  | true => .at S.app (.ki .i64 (.ofNat 0)) 0
  | false => .kb true
noncomputable def StdL.L (S : StdL) : LoopSp := { n := S.n, T := S.T, pre := S.pre, cnd := S.cnd, yes := (S.yes.1, S.yes.2.1, keepX S.keep ++ resN S.app 1 S.yes.2.2), no := (S.no.1, S.no.2.1, keepX S.keep ++ resN S.app 1 S.no.2.2) }
/-- What names of a function F of the variables are. -/
def FL (F : List DV → Bool × List DV) (ds : List DV) : List (List DV) := [.bool (F ds).1 :: (F ds).2]
def goalR (kn : Nat) (F : List DV → Bool × List DV) (Inv : List DV → Prop) (μ : List DV → Nat) (R : Rho) (ds : List DV) : RPln → Prop
  | .ask e t f => ∃ b, den R e = .bool b ∧ (b = true → goalR kn F Inv μ R ds t) ∧ (b = false → goalR kn F Inv μ R ds f)
  | .know e b p => den R e = .bool b ∧ goalR kn F Inv μ R ds p
  | .next τ => Inv (τ.map (den R)) ∧ μ (τ.map (den R)) < μ ds ∧ F (τ.map (den R)) = F ds
  | .exit b τ => F ds = (b, (τ.drop kn).map (den R))
  | .never => False
noncomputable def planOK (S : StdL) : RPln → Bool
  | .ask e t f => varsLt S.nv e && (planOK S t && planOK S f)
  | .know e _ p => varsLt S.nv e && planOK S p
  | .next τ => varsLt.varsLts S.nv τ && Nat.beq τ.length S.nv && keepOK τ S.keep
  | .exit true τ => varsLt.varsLts S.nv (τ.drop S.keep.length) && Nat.beq (τ.drop S.keep.length).length S.yes.2.2 && eqSX.eqSXs (τ.take S.keep.length) (keepX S.keep)
  | .exit false τ => S.two && (varsLt.varsLts S.nv (τ.drop S.keep.length) && Nat.beq (τ.drop S.keep.length).length S.no.2.2 && eqSX.eqSXs (τ.take S.keep.length) (keepX S.keep))
  | .never => true
noncomputable def preVars (n : Nat) : List (SX × Bool) → Bool
  | [] => true
  | (e, _) :: l => varsLt n e && preVars n l
noncomputable def StdL.ok (S : StdL) : Bool := S.yes.2.1.ok S.T S.n && S.no.2.1.ok S.T S.n && (preVars S.nv S.pre && (match srcTys S.T S.n 0 S.T.src with
  | some tys => eqTy.eqTys tys S.tys
  | none => false))
theorem varsLts_map {n : Nat} {R1 R2 : Rho} (hρ : ∀ i, i < n → R1.ρ i = R2.ρ i) (hI : R1.I = R2.I) : ∀ {τ : List SX}, varsLt.varsLts n τ = true → τ.map (den R1) = τ.map (den R2)
  | [], _ => rfl
  | e :: τ, h => by
    simp only [varsLt.varsLts, Bool.and_eq_true] at h
    simp only [List.map_cons, den_congr hρ hI e h.1, varsLts_map hρ hI h.2]
theorem preVars_get {n : Nat} : ∀ {l : List (SX × Bool)} {p : SX × Bool}, preVars n l = true → p ∈ l → varsLt n p.1 = true
  | (e, b) :: l, p, h, hp => by
    simp only [preVars, Bool.and_eq_true] at h
    rcases List.mem_cons.1 hp with rfl | hp
    · exact h.1
    · exact preVars_get h.2 hp
theorem resN_den {R : Rho} {e : SX} {row : List DV} (he : den R e = .list [row]) : ∀ (m k : Nat), (resN e k m).map (den R) = rhoL (fun i => row.getD i (.bool false)) k m
  | 0, _ => rfl
  | m + 1, k => by
    simp only [resN, List.map_cons, rhoL, resN_den he m]
    congr 1
    simp only [den, he]
    rfl
theorem rho_agree {R : Rho} {I : Nat → List DV → DV} {n : Nat} : ∀ i, i < n → R.ρ i = (rhoOf I (rhoL R.ρ 0 n)).ρ i := by
  intro i hi
  simp only [rhoOf, List.getD_eq_getElem?_getD]
  rw [rhoL_get _ _ _ _ hi]
  simp
section
variable {P : Program} {G : Nat → Option (List AV)} {I : Nat → List DV → DV} {S : StdL} {F : List DV → Bool × List DV} {Inv : List DV → Prop} {μ : List DV → Nat}
theorem std_app {R : Rho} (hF : ∀ ds, I S.f ds = .list (FL F ds)) (hRI : R.I = I) : den R S.app = .list [.bool (F (rhoL R.ρ 0 S.nv)).1 :: (F (rhoL R.ρ 0 S.nv)).2] := by
  unfold StdL.app
  rw [d_app, varsL_den, hRI, hF]
  rfl
theorem keep_next {R : Rho} {τ : List SX} : ∀ {ks : List Nat}, keepOK τ ks = true → (keepX ks).map (den (R.sub τ)) = (keepX ks).map (den R)
  | [], _ => rfl
  | k :: ks, h => by
    simp only [keepOK, Bool.and_eq_true] at h
    obtain ⟨h1, h2⟩ := h
    split at h1
    · rename_i e he
      have h1 := eqSX_eq h1
      subst h1
      simp only [keepX, List.map_cons, keep_next h2]
      congr 1
      exact sub_get R τ k he rfl
    · cases h1
theorem goalR_round (hF : ∀ ds, I S.f ds = .list (FL F ds)) {R : Rho} (hRI : R.I = I) : ∀ {p : RPln}, planOK S p = true → goalR S.keep.length F Inv μ (rhoOf I (rhoL R.ρ 0 S.nv)) (rhoL R.ρ 0 S.nv) p →
    goalRound S.L (fun R => Inv (rhoL R.ρ 0 S.nv)) (fun R => μ (rhoL R.ρ 0 S.nv)) R p
  | .ask e t f, hp, hg => by
    simp only [planOK, Bool.and_eq_true] at hp
    obtain ⟨b, h1, h2, h3⟩ := hg
    rw [← den_congr (R1 := R) rho_agree hRI e hp.1] at h1
    exact round_ask h1 (fun h => goalR_round hF hRI hp.2.1 (h2 h)) (fun h => goalR_round hF hRI hp.2.2 (h3 h))
  | .know e b p, hp, hg => by
    simp only [planOK, Bool.and_eq_true] at hp
    obtain ⟨h1, h2⟩ := hg
    rw [← den_congr (R1 := R) rho_agree hRI e hp.1] at h1
    exact ⟨h1, goalR_round hF hRI hp.2 h2⟩
  | .next τ, hp, hg => by
    simp only [planOK, Bool.and_eq_true] at hp
    obtain ⟨⟨hp1, hp2⟩, hp3⟩ := hp
    obtain ⟨h1, h2, h3⟩ := hg
    rw [← varsLts_map (R1 := R) rho_agree hRI hp1] at h1 h2 h3
    have hlen : τ.length = S.nv := Nat.eq_of_beq_eq_true hp2
    have hs : rhoL (R.sub τ).ρ 0 S.nv = τ.map (den R) := by
      have := rhoL_getD (τ.map (den R)) (.bool false)
      rw [List.length_map, hlen] at this
      exact this
    have e1 := std_app (S := S) hF hRI
    have e2 := std_app (S := S) (R := R.sub τ) hF hRI
    rw [hs, h3] at e2
    refine ⟨?_, ?_, ?_, fun b _ => ?_⟩
    · show Inv (rhoL (R.sub τ).ρ 0 S.nv)
      rw [hs]
      exact h1
    · show μ (rhoL (R.sub τ).ρ 0 S.nv) < _
      rw [hs]
      exact h2
    · show den (R.sub τ) S.cnd = den R S.cnd
      unfold StdL.cnd
      split
      · simp only [den, e1, e2]
      · rfl
    · cases b
      · show (keepX S.keep ++ resN S.app 1 S.no.2.2).map _ = (keepX S.keep ++ resN S.app 1 S.no.2.2).map _
        rw [List.map_append, List.map_append, resN_den e1, resN_den e2, keep_next hp3]
      · show (keepX S.keep ++ resN S.app 1 S.yes.2.2).map _ = (keepX S.keep ++ resN S.app 1 S.yes.2.2).map _
        rw [List.map_append, List.map_append, resN_den e1, resN_den e2, keep_next hp3]
  | .exit b τ, hp, hg => by
    have hg : F _ = (b, (τ.drop S.keep.length).map (den _)) := hg
    have e1 := std_app (S := S) hF hRI
    have out : ∀ m : Nat, (varsLt.varsLts S.nv (τ.drop S.keep.length) && Nat.beq (τ.drop S.keep.length).length m && eqSX.eqSXs (τ.take S.keep.length) (keepX S.keep)) = true →
        den R S.app = .list [.bool b :: (τ.drop S.keep.length).map (den R)] ∧ τ.map (den R) = (keepX S.keep ++ resN S.app 1 m).map (den R) := by
      intro m hp
      simp only [Bool.and_eq_true] at hp
      obtain ⟨⟨q1, q2⟩, q3⟩ := hp
      have hg' := hg
      rw [← varsLts_map (R1 := R) rho_agree hRI q1] at hg'
      rw [hg'] at e1
      refine ⟨e1, ?_⟩
      have hlen : (τ.drop S.keep.length).length = m := Nat.eq_of_beq_eq_true q2
      have q3 := eqSXs_eq q3
      conv => lhs; rw [← List.take_append_drop S.keep.length τ, q3]
      rw [List.map_append, List.map_append, resN_den e1, ← hlen]
      congr 1
      have key : ∀ (l : List DV) (n b' : Nat), rhoL (fun i => (DV.bool b :: l).getD i (.bool false)) (b' + 1) n = rhoL (fun i => l.getD i (.bool false)) b' n := by
        intro l n
        induction n with
        | zero => intro b'; rfl
        | succ n ih => intro b'; simp only [rhoL, ih]; rfl
      rw [key]
      have := rhoL_getD ((τ.drop S.keep.length).map (den R)) (.bool false)
      rw [List.length_map] at this
      exact this.symm
    cases b with
    | true =>
      obtain ⟨g1, g2⟩ := out _ hp
      refine ⟨?_, g2⟩
      show den R S.cnd = _
      unfold StdL.cnd
      split
      · simp only [den, g1]
        rfl
      · rfl
    | false =>
      simp only [planOK] at hp
      rw [Bool.and_eq_true] at hp
      obtain ⟨g1, g2⟩ := out _ hp.2
      refine ⟨?_, g2⟩
      show den R S.cnd = _
      unfold StdL.cnd
      rw [hp.1]
      simp only [den, g1]
      rfl
  | .never, _, hg => hg.elim
theorem std_init (hok : S.ok = true) {O : Orc} {m : Env} {a : Act} {w : World} (hr : @RS O plainR m G (S.T.st S.n) a w) (hRI : m.R.I = I) (hpre : ∀ p ∈ S.pre, den m.R p.1 = .bool p.2) :
    IsL S.tys (rhoL m.R.ρ 0 S.nv) ∧ ∀ p ∈ S.pre, den (rhoOf I (rhoL m.R.ρ 0 S.nv)) p.1 = .bool p.2 := by
  simp only [StdL.ok, Bool.and_eq_true] at hok
  obtain ⟨_, h1, h2⟩ := hok
  split at h2
  · rename_i tys ht
    have := eqTys_eq h2
    subst this
    refine ⟨?_, fun p hp => ?_⟩
    · have h3 := srcTys_is hr ht
      have h4 : S.T.src.length = S.nv := by
        have key : ∀ (l : List Src) (i : Nat) (tys : List Ty), srcTys S.T S.n i l = some tys → l.length = tys.length := by
          intro l
          induction l with
          | nil => intro i tys h; simp only [srcTys, Option.some.injEq] at h; subst h; rfl
          | cons s l ih =>
            intro i tys h
            unfold srcTys at h
            split at h <;> (try (cases h; done))
            rename_i t ts h1 h2
            cases h
            simp only [List.length_cons, ih _ _ h2]
        exact key _ _ _ ht
      rw [h4] at h3
      exact h3
    · rw [← den_congr (R1 := m.R) rho_agree hRI p.1 (preVars_get h1 hp)]
      exact hpre p hp
  · cases h2
variable {spec : Orc → FuncId → Option (List AV → AHeap → Out)} {lps : Nat → List LoopSp}
/-- A LOOP's CONTRACT, the plain way. -/
theorem std_loop (hm : P.follows .mixedOrders = true) (hN : ∀ (f : FuncId) (fn : Func), P.funcs[f]? = some fn → (fn.name == "runtime.NumGoroutine") = false) (hsp : ∀ O : Orc, O.I = I → @SpecOK O P G (spec O)) (hG : PlainG G) (n : Nat) {B : Code}
    {sub : FuncId → List (Nat → List LoopSp)} (hs : SubOK P G I sub) (hl : LoopsOK P G I lps B) (hF : ∀ ds, I S.f ds = .list (FL F ds)) (p : RPln)
    (hok : (S.ok && (planOK S p && checkRound S.L (fun facts s => @codeM (mkO facts I) P G (spec (mkO facts I)) n sub lps B s) [] p)) = true)
    (init : ∀ ds, IsL S.tys ds → (∀ p ∈ S.pre, den (rhoOf I ds) p.1 = .bool p.2) → Inv ds)
    (step : ∀ ds, Inv ds → goalR S.keep.length F Inv μ (rhoOf I ds) ds p) : LoopOK P G I B S.L := by
  simp only [Bool.and_eq_true] at hok
  obtain ⟨h1, h2, h3⟩ := hok
  have h4 := h1
  simp only [StdL.ok, Bool.and_eq_true] at h4
  refine loop_plan hm hN hsp hG n hs hl p ?_ (fun R => Inv (rhoL R.ρ 0 S.nv)) (fun R => μ (rhoL R.ρ 0 S.nv)) ?_ ?_
  · rw [h3, Bool.and_true]
    exact Bool.and_eq_true _ _ ▸ h4.1
  · intro m a w hr hp
    have hRI : m.R.I = I := by obtain ⟨_, _, _, _, _, _, y, _⟩ := hr; exact y
    obtain ⟨g1, g2⟩ := std_init h1 hr hRI hp
    exact init _ g1 g2
  · intro R hRI hinv
    exact goalR_round hF hRI h2 (step _ hinv)
/-- A FUNCTION's CONTRACT from a template, the plain way. -/
theorem std_call (hG : PlainG G) {f : FuncId} (hb : HasBody P f) (hn : 1 ≤ S.n) (call : Orc → CallF)
    (hcall : ∀ O : Orc, O.I = I → @CallOK O P G (fun g args h => if g = f then call O g args h else none)) (hF : ∀ ds, I S.f ds = .list (FL F ds)) (p : RPln)
    (hok : (S.ok && (planOK S p && checkCallT S.L (fun facts => call (mkO facts I) f) [] p)) = true)
    (init : ∀ ds, IsL S.tys ds → (∀ p ∈ S.pre, den (rhoOf I ds) p.1 = .bool p.2) → Inv ds)
    (step : ∀ ds, Inv ds → goalR S.keep.length F (fun _ => False) (fun _ => 0) (rhoOf I ds) ds p) : CallTOK P G I f S.L := by
  simp only [Bool.and_eq_true] at hok
  obtain ⟨h1, h2, h3⟩ := hok
  have h4 := h1
  simp only [StdL.ok, Bool.and_eq_true] at h4
  refine callT_plan hG hb hn call hcall p ?_ (fun R => Inv (rhoL R.ρ 0 S.nv)) ?_ ?_
  · rw [h3, Bool.and_true]
    exact Bool.and_eq_true _ _ ▸ h4.1
  · intro m a w hr hp
    have hRI : m.R.I = I := by obtain ⟨_, _, _, _, _, _, y, _⟩ := hr; exact y
    obtain ⟨g1, g2⟩ := std_init h1 hr hRI hp
    exact init _ g1 g2
  · intro R hRI hinv
    exact goalR_round hF hRI h2 (step _ hinv)
end
section
variable {kn : Nat} {F : List DV → Bool × List DV} {Inv : List DV → Prop} {μ : List DV → Nat} {R : Rho} {ds : List DV}
theorem r_ask {e : SX} {b : Bool} {t f : RPln} (h : den R e = .bool b) (ht : b = true → goalR kn F Inv μ R ds t) (hf : b = false → goalR kn F Inv μ R ds f) : goalR kn F Inv μ R ds (.ask e t f) := ⟨b, h, ht, hf⟩
theorem r_know {e : SX} {b : Bool} {p : RPln} (h : den R e = .bool b) (hp : goalR kn F Inv μ R ds p) : goalR kn F Inv μ R ds (.know e b p) := ⟨h, hp⟩
theorem r_knows {p : RPln} : ∀ {l : List (SX × Bool)}, (∀ q ∈ l, den R q.1 = .bool q.2) → goalR kn F Inv μ R ds p → goalR kn F Inv μ R ds (knowR l p)
  | [], _, hp => hp
  | q :: l, h, hp => ⟨h q (by simp), r_knows (fun x hx => h x (by simp [hx])) hp⟩
/-- A loop's result, by its name. -/
theorem d_std {I : Nat → List DV → DV} {f k : Nat} {es : List SX} (hI : R.I = I) (hF : ∀ ds, I f ds = .list (FL F ds)) : den R (.at (.app f es) (.ki .i64 (.ofNat 0)) k) = (DV.bool (F (es.map (den R))).1 :: (F (es.map (den R))).2).getD k (.bool false) := by
  have : den R (.app f es) = .list (FL F (es.map (den R))) := by rw [d_app, hI, hF]
  simp only [den] at this ⊢
  rw [this]
  rfl
end
end Go.AM
/-
  What a law's arguments read as, and what the machine takes them for: a reading of the form (DataW.trod) gives data under the machine's own words (RepV), all memory frozen.
-/
namespace Go.AM
open Go

noncomputable def flatFs (P : Program) (g : TypeId → Option (List Ty)) : Nat → List Field → Option (List Ty)
  | _, [] => some []
  | o, f :: fs => match g f.type with
    | some cs => match Nat.beq f.offset o && Nat.beq cs.length (P.cellsOf f.type) with
      | true => match flatFs P g (o + cs.length) fs with
        | some r => some (cs ++ r)
        | none => none
      | false => none
    | none => none
/-- The cells of a type, as data. -/
noncomputable def flat (P : Program) : Nat → TypeId → Option (List Ty)
  | 0, _ => none
  | n + 1, t => match P.underlying t with
    | some .bool => some [.bool]
    | some (.int k) => some [.int k]
    | some .string => some [.str]
    | some (.slice e) => match flat P n e with
      | some cs => match Nat.beq cs.length (P.cellsOf e) && Nat.blt 0 cs.length with
        | true => some [.slice cs]
        | false => none
      | none => none
    | some (.struct fs) => match flatFs P (flat P n) 0 fs.toList with
      | some cs => match Nat.beq cs.length (P.cellsOf t) with
        | true => some cs
        | false => none
      | none => none
    | some (.array k e) => match flat P n e with
      | some cs => match Nat.beq cs.length (P.cellsOf e) && Nat.beq (k * cs.length) (P.cellsOf t) with
        | true => some (List.replicate k cs).flatten
        | false => none
      | none => none
    | _ => none

theorem RepV.append {m : Env} : ∀ {ts1 : List Ty} {ds1 : List DV} {vs1 : List Value} {ts2 : List Ty} {ds2 : List DV} {vs2 : List Value}, RepV m ts1 ds1 vs1 → RepV m ts2 ds2 vs2 → RepV m (ts1 ++ ts2) (ds1 ++ ds2) (vs1 ++ vs2)
  | [], ds1, vs1, ts2, ds2, vs2, h1, h2 => by
    simp only [RepV] at h1
    obtain ⟨rfl, rfl⟩ := h1
    simpa using h2
  | t :: ts, ds1, vs1, ts2, ds2, vs2, h1, h2 => by
    simp only [RepV] at h1
    obtain ⟨d, ds', v, vs', rfl, rfl, h3, h4⟩ := h1
    exact ⟨d, ds' ++ ds2, v, vs' ++ vs2, rfl, rfl, h3, h4.append h2⟩
theorem RepV.lenV {m : Env} : ∀ {ts : List Ty} {ds : List DV} {vs : List Value}, RepV m ts ds vs → vs.length = ts.length
  | [], ds, vs, h => by simp only [RepV] at h; obtain ⟨rfl, rfl⟩ := h; rfl
  | t :: ts, ds, vs, h => by
    simp only [RepV] at h
    obtain ⟨d, ds', v, vs', rfl, rfl, h3, h4⟩ := h
    simp [h4.lenV]
theorem RepV.repL {m : Env} {b : Nat} : ∀ {ts : List Ty} {ds : List DV} {vs : List Value} {o : Nat}, RepV m ts ds vs → (∀ j, j < vs.length → m.ecell b (o + j) = vs[j]?) → RepL m ts ds b o
  | [], ds, vs, o, h, _ => by simp only [RepV] at h; simp only [RepL]; exact h.1
  | t :: ts, ds, vs, o, h, hc => by
    simp only [RepV] at h
    obtain ⟨d, ds', v, vs', rfl, rfl, h3, h4⟩ := h
    simp only [RepL]
    refine ⟨d, ds', v, rfl, by simpa using hc 0 (by simp), h3, h4.repL fun j hj => ?_⟩
    have := hc (j + 1) (by simpa using hj)
    rw [show o + 1 + j = o + (j + 1) by omega]
    simpa using this

theorem cells_split {α : Type} (cs : List α) (o a b : Nat) : (cs.drop o).take (a + b) = (cs.drop o).take a ++ (cs.drop (o + a)).take b := by
  rw [List.take_add, List.drop_drop]

/-- All memory, as it is. -/
abbrev memE (W : World) : Env := envE fun b => W.heap[b]?
theorem memE_cell {W : World} {b o : Nat} {v : Value} (h : W.cell? ⟨b, o, none⟩ = some v) : (memE W).ecell b o = some v := by
  unfold World.cell? at h
  unfold Env.ecell memE envE
  simp only at h ⊢
  split at h
  · rename_i c t p e
    rw [e]
    simpa using h
  · cases h
theorem cell_spot {W : World} {a : Addr} {v : Value} (h : W.cell? a = some v) : a.spot = none := by
  unfold World.cell? at h
  split at h
  · split at h
    · cases h
    · rename_i hs
      simpa using hs
  · cases h
theorem add_zero (a : Addr) : a.add 0 = a := rfl
theorem flatFs_read {P : Program} {m : Env} {g : TypeId → Option (List Ty)} {cs : List Value} : ∀ {fs : List Field} {o : Nat} {ts : List Ty}, flatFs P g o fs = some ts →
    (∀ f ∈ fs, ∀ us, g f.type = some us → ∃ ds, RepV m us ds ((cs.drop f.offset).take (P.cellsOf f.type))) → ∃ ds, RepV m ts ds ((cs.drop o).take ts.length)
  | [], o, ts, h, _ => by
    simp only [flatFs, Option.some.injEq] at h
    subst h
    exact ⟨[], by simp [RepV]⟩
  | f :: fs, o, ts, h, hf => by
    simp only [flatFs] at h
    split at h
    · rename_i us hus
      split at h
      · rename_i hc
        simp only [Bool.and_eq_true, Nat.beq_eq] at hc
        split at h
        · rename_i r hr
          cases h
          obtain ⟨d1, h1⟩ := hf f (by simp) us hus
          obtain ⟨d2, h2⟩ := flatFs_read hr fun f' hf' => hf f' (by simp [hf'])
          refine ⟨d1 ++ d2, ?_⟩
          rw [List.length_append, cells_split]
          rw [hc.1, ← hc.2] at h1
          exact h1.append h2
        · cases h
      · cases h
    · cases h
theorem flatArr_read {m : Env} {us : List Ty} {cs : List Value} : ∀ (k o : Nat), (∀ i, i < k → ∃ ds, RepV m us ds ((cs.drop (o + i * us.length)).take us.length)) → ∃ ds, RepV m (List.replicate k us).flatten ds ((cs.drop o).take (k * us.length))
  | 0, o, _ => ⟨[], by simp [RepV]⟩
  | k + 1, o, h => by
    obtain ⟨d1, h1⟩ := h 0 (by omega)
    obtain ⟨d2, h2⟩ := flatArr_read k (o + us.length) fun i hi => by
      obtain ⟨ds, hd⟩ := h (i + 1) (by omega)
      refine ⟨ds, ?_⟩
      rw [show o + us.length + i * us.length = o + (i + 1) * us.length by rw [Nat.add_mul]; omega]
      exact hd
    refine ⟨d1 ++ d2, ?_⟩
    rw [show (k + 1) * us.length = us.length + k * us.length by rw [Nat.add_mul]; omega, cells_split, List.replicate_succ, List.flatten_cons]
    rw [Nat.zero_mul, Nat.add_zero] at h1
    exact h1.append h2
theorem rows_exist {Q : Nat → List DV → Prop} : ∀ (n : Nat), (∀ i, i < n → ∃ d, Q i d) → ∃ es : List (List DV), es.length = n ∧ ∀ i row, es[i]? = some row → Q i row
  | 0, _ => ⟨[], rfl, by simp⟩
  | n + 1, h => by
    obtain ⟨es, h1, h2⟩ := rows_exist n fun i hi => h i (by omega)
    obtain ⟨d, hd⟩ := h n (by omega)
    refine ⟨es ++ [d], by simp [h1], fun i row hi => ?_⟩
    by_cases hlt : i < n
    · rw [List.getElem?_append_left (by omega)] at hi
      exact h2 i row hi
    · rw [List.getElem?_append_right (by omega)] at hi
      have : i - es.length = 0 := by
        have := (List.getElem?_eq_some_iff.1 hi).1
        simp at this
        omega
      rw [this] at hi
      simp at hi
      subst hi
      have : i = n := by omega
      rw [this]; exact hd

/-- WHAT IS READ, AS DATA. -/
theorem read_sound {H : Type} {enc : TypeId × Value → H} {P : Program} {W : World} {base : Nat} {held : Bool} : ∀ (n : Nat) (t : TypeId) (ts : List Ty), flat P n t = some ts →
    ∀ (fuel : Nat) (cs : List Value) (x : DataW H × List MemPlace), DataW.trod enc P W base (fun _ => true) held fuel t cs = some x → ∃ ds, RepV (memE W) ts ds cs
  | 0, t, ts, h, _, _, _, _ => by simp [flat] at h
  | n + 1, t, ts, h, fuel, cs, x, hx => by
    simp only [flat] at h
    split at h
    · rename_i ht
      cases h
      obtain ⟨b, rfl, _⟩ := DataW.trod_bool ht hx
      exact ⟨[.bool b], .bool b, [], .bool b, [], rfl, rfl, by simp only [Rep]; exact ⟨b, rfl, rfl⟩, rfl, rfl⟩
    · rename_i k ht
      cases h
      obtain ⟨z, rfl, _, hw⟩ := DataW.trod_int ht hx
      simp only [Lit.wf, Bool.and_eq_true, decide_eq_true_eq] at hw
      exact ⟨[.int k z], .int k z, [], .int k z, [], rfl, rfl, by simp only [Rep]; exact ⟨z, rfl, rfl, hw.1, hw.2⟩, rfl, rfl⟩
    · rename_i ht
      cases h
      obtain ⟨s, rfl, _, hs⟩ := DataW.trod_string ht hx
      exact ⟨[.str s], .str s, [], .string s, [], rfl, rfl, by simp only [Rep]; exact ⟨s, rfl, rfl, hs⟩, rfl, rfl⟩
    · rename_i e ht
      split at h
      · rename_i us hus
        split at h
        · rename_i hc
          cases h
          simp only [Bool.and_eq_true, Nat.beq_eq, Nat.blt, Nat.ble_eq] at hc
          have hone : ∀ {d : DV} {v : Value}, Rep (memE W) (.slice us) d v → ∃ ds, RepV (memE W) [.slice us] ds [v] := fun {d v} hr => ⟨[d], d, [], v, [], rfl, rfl, hr, rfl, rfl⟩
          rcases DataW.trod_slice ht hx with ⟨rfl, _⟩ | ⟨a, len, cap, elems, rest, fuel', _, rfl, _, hb, hl, hm, hlen, hel, hsp, _⟩
          · refine hone (d := .list []) ?_
            simp only [Rep]
            exact ⟨[], none, 0, rfl, rfl, Nat.le_refl _, by simp, fun _ => rfl, .inl rfl⟩
          · have hall : ∀ i, i < cap → ∃ cs', W.cells? base (a.add (i * P.cellsOf e)) (P.cellsOf e) = some cs' ∧ ∃ y, DataW.trod enc P W base (fun _ => true) held fuel' e cs' = some y := by
              intro i hi
              by_cases hil : i < len
              · have h1 := hel i hil
                rw [List.getElem?_eq_getElem (by omega)] at h1
                obtain ⟨cs', h2, h3⟩ := Option.bind_eq_some_iff.1 h1
                exact ⟨cs', h2, _, h3⟩
              · obtain ⟨hr1, hr2⟩ := hsp rfl
                have h1 := hr2 (i - len) (by omega)
                rw [List.getElem?_eq_getElem (by omega), show len + (i - len) = i by omega] at h1
                obtain ⟨cs', h2, h3⟩ := Option.bind_eq_some_iff.1 h1
                exact ⟨cs', h2, _, h3⟩
            have hml : maxLen = maxLen := rfl
            by_cases hcap : cap = 0
            · have : len = 0 := by omega
              subst this
              refine hone (d := .list []) ?_
              simp only [Rep]
              exact ⟨[], some a, cap, rfl, rfl, by simp, by simp, (fun e => by cases e), .inl hcap⟩
            · have hspot : a.spot = none := by
                obtain ⟨cs', h1, _⟩ := hall 0 (by omega)
                obtain ⟨_, h2, h3⟩ := World.cells?_some h1
                have h4 := h3 0 (by omega)
                rw [List.getElem?_eq_getElem (by omega), Nat.zero_mul] at h4
                exact cell_spot (a := a) h4
              obtain ⟨b, off, spot⟩ := a
              simp only at hspot
              subst hspot
              have hadd : ∀ off k, Addr.add ⟨b, off, none⟩ k = ⟨b, off + k, none⟩ := fun off k => by
                cases k with
                | zero => rfl
                | succ k => simp [Addr.add]
              obtain ⟨es, he1, he2⟩ := rows_exist (Q := fun i row => RepL (memE W) us row b (off + i * us.length)) len fun i hi => by
                obtain ⟨cs', h1, y, h2⟩ := hall i (by omega)
                obtain ⟨ds, hd⟩ := read_sound n e us hus fuel' cs' y h2
                obtain ⟨_, h3, h4⟩ := World.cells?_some h1
                refine ⟨ds, hd.repL fun j hj => ?_⟩
                have h5 := h4 j (by omega)
                rw [hadd, hadd, List.getElem?_eq_getElem hj] at h5
                rw [List.getElem?_eq_getElem hj, hc.1]
                exact memE_cell h5
              refine hone (d := .list es) ?_
              simp only [Rep]
              refine ⟨es, some ⟨b, off, none⟩, cap, rfl, by rw [he1], by omega, by omega, (fun e => by cases e), .inr ⟨b, off, rfl, he2⟩⟩
        · cases h
      · cases h
    · rename_i fs ht
      split at h
      · rename_i us hus
        split at h
        · rename_i hc
          cases h
          rw [Nat.beq_eq] at hc
          obtain ⟨xs, fuel', _, _, hcl, hxl, hfs⟩ := DataW.trod_struct ht hx
          obtain ⟨ds, hd⟩ := flatFs_read (m := memE W) (cs := cs) hus fun f hf vs hg => by
            obtain ⟨i, hi⟩ := List.mem_iff_getElem?.1 hf
            have hi' : fs[i]? = some f := by simpa using hi
            have h1 := hfs i f hi'
            have hlt : i < xs.length := by
              rw [hxl]
              exact (Array.getElem?_eq_some_iff.1 hi').1
            rw [List.getElem?_eq_getElem hlt] at h1
            exact read_sound n f.type vs hg fuel' _ _ h1
          refine ⟨ds, ?_⟩
          rw [List.drop_zero, hc, ← hcl, List.take_length] at hd
          exact hd
        · cases h
      · cases h
    · rename_i k e ht
      split at h
      · rename_i us hus
        split at h
        · rename_i hc
          cases h
          simp only [Bool.and_eq_true, Nat.beq_eq] at hc
          obtain ⟨xs, fuel', _, _, hcl, hxl, hel⟩ := DataW.trod_array ht hx
          obtain ⟨ds, hd⟩ := flatArr_read (m := memE W) (us := us) (cs := cs) k 0 fun i hi => by
            have h1 := hel i hi
            rw [List.getElem?_eq_getElem (by omega), ← hc.1] at h1
            rw [Nat.zero_add]
            exact read_sound n e us hus fuel' _ _ h1
          refine ⟨ds, ?_⟩
          rw [List.drop_zero, hc.2, ← hcl, List.take_length] at hd
          exact hd
        · cases h
      · cases h
    · cases h
end Go.AM
/-
  What a listed variable holds: arrays of integers, out of the datum that the row lists.
-/
namespace Go.AM
open Go

mutual
/-- The cells of a datum of integers, in arrays. -/
noncomputable def litCells {H : Type} : DataW H → Option (List Value)
  | .lit (.int k z) => some [.int k z]
  | .agg ps => litAll ps
  | _ => none
noncomputable def litAll {H : Type} : List (DataW H) → Option (List Value)
  | [] => some []
  | d :: ds => match litCells d, litAll ds with
    | some a, some b => some (a ++ b)
    | _, _ => none
end
noncomputable def arrT (P : Program) : Nat → TypeId → Bool
  | 0, _ => false
  | n + 1, t => match P.underlying t with
    | some (.int _) => true
    | some (.array k e) => arrT P n e && Nat.beq (k * P.cellsOf e) (P.cellsOf t)
    | _ => false
theorem lit_read {H : Type} {enc : TypeId × Value → H} {P : Program} {W : World} {base : Nat} {sp : Nat → Bool} {held : Bool} : ∀ (n : Nat) (t : TypeId), arrT P n t = true →
    ∀ (fuel : Nat) (cs : List Value) (x : DataW H × List MemPlace) (vs : List Value), DataW.trod enc P W base sp held fuel t cs = some x → litCells x.1 = some vs → cs = vs
  | 0, t, h, _, _, _, _, _, _ => by simp [arrT] at h
  | n + 1, t, h, fuel, cs, x, vs, hx, hl => by
    simp only [arrT] at h
    split at h
    · rename_i k ht
      obtain ⟨z, rfl, rfl, _⟩ := DataW.trod_int ht hx
      simp only [litCells, Option.some.injEq] at hl
      exact hl
    · rename_i k e ht
      simp only [Bool.and_eq_true, Nat.beq_eq] at h
      obtain ⟨xs, fuel', _, rfl, hcl, hxl, hel⟩ := DataW.trod_array ht hx
      simp only [litCells] at hl
      have key : ∀ (ys : List (DataW H × List MemPlace)) (o : Nat) (us : List Value), litAll (ys.map (·.1)) = some us → (∀ i y, ys[i]? = some y → DataW.trod enc P W base sp held fuel' e ((cs.drop ((o + i) * P.cellsOf e)).take (P.cellsOf e)) = some y) → (cs.drop (o * P.cellsOf e)).take (ys.length * P.cellsOf e) = us := by
        intro ys
        induction ys with
        | nil =>
          intro o us hu _
          simp only [List.map_nil, litAll, Option.some.injEq] at hu
          simp [hu]
        | cons y ys ih =>
          intro o us hu hy
          simp only [List.map_cons, litAll] at hu
          split at hu
          · rename_i a b ha hb
            cases hu
            have h1 := lit_read n e h.1 fuel' _ y a (by have := hy 0 y rfl; simpa using this) ha
            have h2 := ih (o + 1) b hb fun i z hz => by
              have := hy (i + 1) z (by simpa using hz)
              rw [show o + 1 + i = o + (i + 1) by omega]
              exact this
            rw [List.length_cons, show (ys.length + 1) * P.cellsOf e = P.cellsOf e + ys.length * P.cellsOf e by rw [Nat.add_mul]; omega, cells_split, h1, show o * P.cellsOf e + P.cellsOf e = (o + 1) * P.cellsOf e by rw [Nat.add_mul]; omega, h2]
          · cases hu
      have := key xs 0 vs hl fun i y hy => by
        have hlt := (List.getElem?_eq_some_iff.1 hy).1
        rw [Nat.zero_add, hel i (by omega), hy]
      rw [Nat.zero_mul, List.drop_zero, hxl, h.2, ← hcl, List.take_length] at this
      exact this
    · cases h
theorem VC_scs {m : Env} {b : Nat} : ∀ (vs : List Value) (o : Nat), (∀ j, j < vs.length → m.ecell b (o + j) = vs[j]?) → VC m b o (vs.map .sc)
  | [], _, _ => by simp [VC]
  | v :: vs, o, h => by
    simp only [List.map_cons, VC, V]
    refine ⟨⟨v, by simpa using h 0 (by simp), rfl⟩, VC_scs vs (o + 1) fun j hj => ?_⟩
    have := h (j + 1) (by simpa using hj)
    rw [show o + 1 + j = o + (j + 1) by omega]
    simpa using this
/-- A listed variable, as the machine wants it. -/
theorem glob_read {P : Program} {W : World} {name : String} {g : Nat} {t : TypeId} {cs : Array Value} {fuel : Nat} {d : DataW Unit} {p : List MemPlace} {sp : Nat → Bool} {held : Bool} {l : List AV} {vs : List Value} (n : Nat) (hg : P.globalNamed name = some g) (hv : W.var? P name = some cs)
    (hd : DataW.trod (fun _ => ()) P W 0 sp held fuel t cs.toList = some (d, p)) (ha : arrT P n t = true) (hl : litCells d = some vs) (he : l = vs.map .sc) : VC (memE W) g 0 l := by
  have hcs := lit_read n t ha fuel _ _ vs hd hl
  rw [he]
  refine VC_scs vs 0 fun j hj => ?_
  rw [Nat.zero_add, ← hcs]
  have h1 := World.var?_cell hg hv j
  have hj' : j < cs.size := by rw [← hcs] at hj; simpa using hj
  rw [Array.getElem?_eq_getElem hj'] at h1
  rw [memE_cell h1]
  simp [hj']
end Go.AM
/-
  What a listed variable holds: an array of functions, each by its name.
-/
namespace Go.AM
open Go

theorem utf8_inj {a b : String} (h : a.toUTF8.data.toList = b.toUTF8.data.toList) : a = b :=
  String.toByteArray_inj.1 (show a.toUTF8 = b.toUTF8 from ByteArray.ext (Array.ext' h))
/-- A function by its number, or none. -/
noncomputable def funcV : Option FuncId → Value
  | none => .nilFunc
  | some f => .func (.func f) #[] #[]
/-- Does the datum tell the function? -/
noncomputable def okF (P : Program) : DataW (List UInt8) → Option FuncId → Bool
  | .nil, none => true
  | .held (b :: r), some f => match P.funcs[f]? with
    | some fn => decide (fn.name.toUTF8.data.toList = b :: r) && (P.funcNamed fn.name == some f)
    | none => false
  | _, _ => false
noncomputable def okFs (P : Program) : List (DataW (List UInt8)) → List (Option FuncId) → Bool
  | [], [] => true
  | d :: ds, f :: fs => okF P d f && okFs P ds fs
  | _, _ => false
theorem func_cell {P : Program} {W : World} {base : Nat} {sp : Nat → Bool} {fuel : Nat} {t : TypeId} {ps rs : Array TypeId} {vd : Bool} {cs : List Value} {x : DataW (List UInt8) × List MemPlace} {f : Option FuncId} (ht : P.underlying t = some (.func ps rs vd))
    (h : DataW.trod (funcToken P) P W base sp true fuel t cs = some x) (hf : okF P x.1 f = true) : cs = [funcV f] := by
  cases fuel with
  | zero => simp [DataW.trod] at h
  | succ m =>
    unfold DataW.trod at h
    rw [ht] at h
    split at h <;> simp_all
    · subst h
      cases f with
      | none => rfl
      | some f => simp [okF] at hf
    · rename_i fn first captured
      subst h
      simp only at hf
      unfold okF at hf
      split at hf
      · rename_i e; simp at e
      · rename_i b r f' e
        simp only [DataW.held.injEq] at e
        obtain ⟨f1, fn1, e1, e2, e3, e4⟩ := funcToken_tells e
        split at hf
        · rename_i fn2 hfn2
          simp only [Bool.and_eq_true, decide_eq_true_eq, beq_iff_eq] at hf
          have : fn1.name = fn2.name := utf8_inj (e4.trans hf.1.symm)
          rw [this, hf.2] at e3
          cases e3
          simpa [funcV] using e1
        · cases hf
      · cases hf
theorem func_cells {P : Program} {W : World} {base : Nat} {sp : Nat → Bool} {fuel : Nat} {t e : TypeId} {n : Nat} {ps rs : Array TypeId} {vd : Bool} {cs : List Value} {x : DataW (List UInt8) × List MemPlace} {fs : List (Option FuncId)} {ds : List (DataW (List UInt8))} (ht : P.underlying t = some (.array n e)) (he : P.underlying e = some (.func ps rs vd)) (hc : P.cellsOf e = 1) (hct : P.cellsOf t = n)
    (h : DataW.trod (funcToken P) P W base sp true fuel t cs = some x) (hd : x.1 = .agg ds) (hf : okFs P ds fs = true) : cs = fs.map funcV := by
  obtain ⟨xs, m, _, rfl, hcl, hxl, hel⟩ := DataW.trod_array ht h
  simp only [DataW.agg.injEq] at hd
  subst hd
  have key : ∀ (ys : List (DataW (List UInt8) × List MemPlace)) (o : Nat) (fs : List (Option FuncId)), okFs P (ys.map (·.1)) fs = true → (∀ i y, ys[i]? = some y → DataW.trod (funcToken P) P W base sp true m e ((cs.drop (o + i)).take 1) = some y) → (cs.drop o).take ys.length = fs.map funcV := by
    intro ys
    induction ys with
    | nil =>
      intro o fs hu _
      cases fs with
      | nil => simp
      | cons f fs => simp [okFs] at hu
    | cons y ys ih =>
      intro o fs hu hy
      cases fs with
      | nil => simp [okFs] at hu
      | cons f fs =>
        simp only [List.map_cons, okFs, Bool.and_eq_true] at hu
        have h1 := func_cell he (by have := hy 0 y rfl; simpa using this) hu.1
        have h2 := ih (o + 1) fs hu.2 fun i z hz => by
          have := hy (i + 1) z (by simpa using hz)
          rw [show o + 1 + i = o + (i + 1) by omega]
          exact this
        have h3 : (cs.drop o).take (ys.length + 1) = (cs.drop o).take 1 ++ (cs.drop (o + 1)).take ys.length := by
          rw [show ys.length + 1 = 1 + ys.length by omega, List.take_add, List.drop_drop]
        rw [List.length_cons, h3, h1, h2]
        rfl
  have := key xs 0 fs hf fun i y hy => by
    have hlt := (List.getElem?_eq_some_iff.1 hy).1
    have := hel i (by omega)
    rw [hc, Nat.mul_one] at this
    rw [Nat.zero_add, this, hy]
  rw [List.drop_zero, hxl, ← hct, ← hcl, List.take_length] at this
  exact this
/-- A listed variable of functions, as the machine wants it. -/
theorem func_read {P : Program} {W : World} {name : String} {g : Nat} {t e : TypeId} {n : Nat} {ps rs : Array TypeId} {vd : Bool} {d : DataW Unit} {ds : List (DataW (List UInt8))} {fs : List (Option FuncId)} {l : List AV} (hg : P.globalNamed name = some g) (hgt : (P.globals[g]?).map (·.type) = some t) (h : funcsAt P W name d)
    (ht : P.underlying t = some (.array n e)) (he : P.underlying e = some (.func ps rs vd)) (hc : P.cellsOf e = 1) (hct : P.cellsOf t = n) (hd : d.funcsOut = .agg ds) (hf : okFs P ds fs = true) (hl : l = (fs.map funcV).map .sc) : VC (memE W) g 0 l := by
  obtain ⟨g', t', cs, fuel, p, a, b, c, k⟩ := h
  obtain rfl := Option.some.inj (hg.symm.trans a)
  obtain rfl := Option.some.inj (hgt.symm.trans b)
  have hcs := func_cells ht he hc hct k hd hf
  rw [hl]
  refine VC_scs _ 0 fun j hj => ?_
  rw [Nat.zero_add, ← hcs]
  have h1 := World.var?_cell hg c j
  have hj' : j < cs.size := by rw [← hcs] at hj; simpa using hj
  rw [Array.getElem?_eq_getElem hj'] at h1
  rw [memE_cell h1]
  simp [hj']
end Go.AM
