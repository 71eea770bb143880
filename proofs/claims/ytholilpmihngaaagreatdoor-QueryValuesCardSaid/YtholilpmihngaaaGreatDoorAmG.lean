/-
  A part of the proof of QueryValues (the machine on named data, and the contracts of the functions that the law reaches): AmL1 AmL2 AmL3 AmL4 AmL5 AmL6 AmPan AmPanD AmL7 AmL8 AmPanL.
-/
import Derived.LoopN
import Derived.Test.YtholilpmihngaaaGreatDoorAmF
set_option linter.all false
set_option linter.unusedVariables false
set_option linter.unusedSimpArgs false
set_option linter.unusedSectionVars false
namespace Go.AM
open Go

/-! ## Names put for names -/
noncomputable def subst (τ : List SX) : SX → SX
  | .v i => τ.getD i (.kb false)
  | .ki k z => .ki k z
  | .kb b => .kb b
  | .ks s => .ks s
  | .emp => .emp
  | .len e => .len (subst τ e)
  | .at e i c => .at (subst τ e) (subst τ i) c
  | .byte e i => .byte (subst τ e) (subst τ i)
  | .bin op x y => .bin op (subst τ x) (subst τ y)
  | .conv k x => .conv k (subst τ x)
  | .not x => .not (subst τ x)
  | .cut e a b => .cut (subst τ e) (subst τ a) (subst τ b)
  | .cat x y => .cat (subst τ x) (subst τ y)
  | .bytes x => .bytes (subst τ x)
  | .text x => .text (subst τ x)
  | .all es => .all (substs es)
  | .app f es => .app f (substs es)
  | .row es => .row (substs es)
where
  substs : List SX → List SX
    | [] => []
    | e :: es => subst τ e :: substs es

def rhoOf (I : Nat → List DV → DV) (l : List DV) : Rho := ⟨fun i => l.getD i (.bool false), I⟩
/-- What the names of a template stand for. -/
noncomputable def Rho.sub (R : Rho) (τ : List SX) : Rho := rhoOf R.I (τ.map (den R))

mutual
theorem den_subst (R : Rho) (τ : List SX) : ∀ e : SX, den R (subst τ e) = den (R.sub τ) e
  | .v i => by
    simp only [subst, den, Rho.sub, rhoOf, List.getD_eq_getElem?_getD, List.getElem?_map]
    cases τ[i]? with
    | none => rfl
    | some x => rfl
  | .ki k z => rfl
  | .kb b => rfl
  | .ks s => rfl
  | .emp => rfl
  | .len e => by simp only [subst, den, den_subst R τ e]
  | .at e i c => by simp only [subst, den, den_subst R τ e, den_subst R τ i]
  | .byte e i => by simp only [subst, den, den_subst R τ e, den_subst R τ i]
  | .bin op x y => by simp only [subst, den, den_subst R τ x, den_subst R τ y]
  | .conv k x => by simp only [subst, den, den_subst R τ x]
  | .not x => by simp only [subst, den, den_subst R τ x]
  | .cut e a b => by simp only [subst, den, den_subst R τ e, den_subst R τ a, den_subst R τ b]
  | .cat x y => by simp only [subst, den, den_subst R τ x, den_subst R τ y]
  | .bytes x => by simp only [subst, den, den_subst R τ x]
  | .text x => by simp only [subst, den, den_subst R τ x]
  | .all es => by simp only [subst, den, denAll_subst R τ es]
  | .app f es => by simp only [subst, den, denL_subst R τ es]; rfl
  | .row es => by simp only [subst, den, denL_subst R τ es]
theorem denAll_subst (R : Rho) (τ : List SX) : ∀ es : List SX, den.denAll R (subst.substs τ es) = den.denAll (R.sub τ) es
  | [] => rfl
  | e :: es => by simp only [subst.substs, den.denAll, den_subst R τ e, denAll_subst R τ es]
theorem denL_subst (R : Rho) (τ : List SX) : ∀ es : List SX, den.denL R (subst.substs τ es) = den.denL (R.sub τ) es
  | [] => rfl
  | e :: es => by simp only [subst.substs, den.denL, den_subst R τ e, denL_subst R τ es]
end

theorem Rep.emono {m m' : Env} (hE : ∀ b o, m.E b = some o → m'.E b = some o) {t : Ty} {d : DV} {v : Value} (h : Rep m t d v) : Rep m' t d v := by
  have h1 : m.wle { m with E := m'.E } := ⟨fun _ h => h, fun _ _ => rfl, hE, rfl, rfl⟩
  have h2 := Rep.wmono h1 t d v h
  have key : ∀ (n : Env) (n' : Env), n.E = n'.E → ∀ t d v, Rep n t d v → Rep n' t d v := by
    intro n n' e t
    have he : ∀ b o, n.ecell b o = n'.ecell b o := fun b o => by simp [Env.ecell, e]
    induction t using Ty.rec (motive_2 := fun ts => ∀ ds b o, RepL n ts ds b o → RepL n' ts ds b o) with
    | int k => intro d v h; simpa only [Rep] using h
    | bool => intro d v h; simpa only [Rep] using h
    | str => intro d v h; simpa only [Rep] using h
    | slice cs ih =>
      intro d v h
      simp only [Rep] at h ⊢
      obtain ⟨es, a, c, h1, h2, h3, h4, h5, h6⟩ := h
      refine ⟨es, a, c, h1, h2, h3, h4, h5, ?_⟩
      rcases h6 with h6 | ⟨b, o, e, h7⟩
      · exact .inl h6
      · exact .inr ⟨b, o, e, fun i row hi => ih _ _ _ (h7 i row hi)⟩
    | nil => rename_i ds b o h; simpa only [RepL] using h
    | cons t ts iht ihts =>
      rename_i ds b o h
      simp only [RepL] at h ⊢
      obtain ⟨d, rest, v, h1, h2, h3, h4⟩ := h
      exact ⟨d, rest, v, h1, by rw [← he]; exact h2, iht _ _ h3, ihts _ _ _ h4⟩
  exact key { m with E := m'.E } m' rfl t d v h2

/-! ## From one environment to another -/
/-- What names and frozen blocks m has, m' has: the slice that grows under name i there goes by the name ow i here. -/
structure Env.sees (nm : Nat → Bool) (ow : Nat → Option Nat) (m m' : Env) : Prop where
  dom : ∀ id, nm id = true → m.dom id → m'.dom id ∧ m'.mu id = m.mu id
  own : ∀ i j, ow i = some j → m.dom j → m'.dom i ∧ m'.mu i = m.mu j
  E : ∀ b o, m.E b = some o → m'.E b = some o

theorem Env.sees.ecell {nm : Nat → Bool} {ow : Nat → Option Nat} {m m' : Env} (h : m.sees nm ow m') {b o : Nat} {v : Value} (hv : m.ecell b o = some v) : m'.ecell b o = some v := by
  unfold Env.ecell at *
  cases he : m.E b with
  | none => simp [he] at hv
  | some x => rw [h.E b x he]; simpa [he] using hv

noncomputable def isName (o : Option Nat) (j : Nat) : Bool :=
  match o with
  | some k => Nat.beq k j
  | none => false
theorem isName_eq {o : Option Nat} {j : Nat} (h : isName o j = true) : o = some j := by
  cases o with
  | none => simp [isName] at h
  | some k => simp only [isName, Nat.beq_eq] at h; rw [h]

/-- a, a template with names to be put, holds of what b holds of. -/
noncomputable def matchAV (nm : Nat → Bool) (ow : Nat → Option Nat) (τ : List SX) : AV → AV → Bool
  | .dead, _ => true
  | .sy t e, a => match asTy t a with
    | some x => eqSX (subst τ e) x
    | none => false
  | .sc u, .sc v => match u, v with
    | .func (.func f) a b, .func (.func g) c d => Nat.beq f g && Nat.beq a.size 0 && Nat.beq b.size 0 && Nat.beq c.size 0 && Nat.beq d.size 0
    | u, v => eqV u v
  | .ptr i a, .ptr j b => Nat.beq i j && Nat.beq a b && nm i
  | .sl i a l c, .sl j b k d => Nat.beq i j && Nat.beq a b && Nat.beq l k && nm i && (match c, d with
    | none, none => true
    | some c, some d => Nat.beq c d
    | _, _ => false)
  | .emp a, .emp b => Nat.beq a b
  | .agg cs, .agg ds => matchAVs cs ds
  | .fp cs, .fp ds => matchAVs cs ds
  | .own i ts e, .own j us f => isName (ow i) j && eqTy.eqTys ts us && eqSX (subst τ e) f
  | .clo (.func f) as cs, .clo (.func g) bs ds => Nat.beq f g && matchAVs as bs && matchAVs cs ds
  | .hnd k i, .hnd l j => Nat.beq k l && (match Nat.beq k 2 with
    | true => isName (ow i) j
    | false => Nat.beq i j && nm i)
  | _, _ => false
where
  matchAVs : List AV → List AV → Bool
    | [], [] => true
    | c :: cs, d :: ds => matchAV nm ow τ c d && matchAVs cs ds
    | _, _ => false

mutual
theorem match_sound {nm : Nat → Bool} {ow : Nat → Option Nat} {τ : List SX} {m m' : Env} (hs : m.sees nm ow m') (hR : m'.R = m.R.sub τ) : ∀ (a b : AV) (v : Value), matchAV nm ow τ a b = true → V m b v → V m' a v := by
  intro a b v h hv
  unfold matchAV at h
  split at h <;> (try (cases h; done))
  · simp [V]
  · rename_i t e b
    split at h
    · rename_i x hx
      have := asTy_spec hx hv
      simp only [V]
      rw [hR, ← den_subst, eqSX_eq h]
      exact this.emono hs.E
    · cases h
  · rename_i u v'
    split at h
    · rename_i f a b g c d
      simp only [Bool.and_eq_true, Nat.beq_eq] at h
      obtain ⟨⟨⟨⟨rfl, h1⟩, h2⟩, h3⟩, h4⟩ := h
      simp only [V] at hv ⊢
      rw [hv]
      have e1 : a = #[] := Array.eq_empty_of_size_eq_zero h1
      have e2 : b = #[] := Array.eq_empty_of_size_eq_zero h2
      have e3 : c = #[] := Array.eq_empty_of_size_eq_zero h3
      have e4 : d = #[] := Array.eq_empty_of_size_eq_zero h4
      rw [e1, e2, e3, e4]
    · rw [eqV_sound (O := ⟨fun _ => none, fun _ _ => .bool false⟩) h]; simpa only [V] using hv
  · simp only [Bool.and_eq_true, Nat.beq_eq] at h
    obtain ⟨⟨rfl, rfl⟩, h3⟩ := h
    simp only [V] at hv ⊢
    obtain ⟨h4, h5⟩ := hs.dom _ h3 hv.1
    rw [h5]
    exact ⟨h4, hv.2⟩
  · simp only [Bool.and_eq_true, Nat.beq_eq] at h
    obtain ⟨⟨⟨⟨rfl, rfl⟩, rfl⟩, h3⟩, h6⟩ := h
    simp only [V] at hv ⊢
    obtain ⟨h4, h5⟩ := hs.dom _ h3 hv.1
    rw [h5]
    split at h6
    · exact ⟨h4, hv.2⟩
    · simp only [Nat.beq_eq] at h6
      subst h6
      exact ⟨h4, hv.2⟩
    · cases h6
  · rw [Nat.beq_eq] at h
    rw [h]
    simpa only [V] using hv
  · simp only [V] at hv ⊢
    obtain ⟨vs, e, hl⟩ := hv
    exact ⟨vs, e, matchs_sound hs hR _ _ _ h hl⟩
  · simp only [V] at hv ⊢
    obtain ⟨b, o, e, hc⟩ := hv
    exact ⟨b, o, e, matchs_cells hs hR _ _ b o h hc⟩
  · simp only [Bool.and_eq_true] at h
    obtain ⟨⟨h1, h2⟩, h3⟩ := h
    simp only [V] at hv ⊢
    obtain ⟨h4, h5⟩ := hs.own _ _ (isName_eq h1) hv.1
    rw [h5, hR, ← den_subst, eqSX_eq h3]
    exact ⟨h4, hv.2⟩
  · simp only [Bool.and_eq_true, Nat.beq_eq] at h
    obtain ⟨⟨rfl, h2⟩, h3⟩ := h
    simp only [V] at hv ⊢
    obtain ⟨us, ws, e, k1, k2⟩ := hv
    exact ⟨us, ws, e, matchs_sound hs hR _ _ _ h2 k1, matchs_sound hs hR _ _ _ h3 k2⟩
  · simp only [Bool.and_eq_true, Nat.beq_eq] at h
    obtain ⟨rfl, h2⟩ := h
    simp only [V] at hv ⊢
    split at h2
    · obtain ⟨h4, h5⟩ := hs.own _ _ (isName_eq h2) hv.1.1
      rw [h5]
      exact ⟨⟨h4, hv.1.2⟩, hv.2⟩
    · simp only [Bool.and_eq_true, Nat.beq_eq] at h2
      obtain ⟨rfl, h3⟩ := h2
      obtain ⟨h4, h5⟩ := hs.dom _ h3 hv.1.1
      rw [h5]
      exact ⟨⟨h4, hv.1.2⟩, hv.2⟩
theorem matchs_sound {nm : Nat → Bool} {ow : Nat → Option Nat} {τ : List SX} {m m' : Env} (hs : m.sees nm ow m') (hR : m'.R = m.R.sub τ) : ∀ (as bs : List AV) (vs : List Value), matchAV.matchAVs nm ow τ as bs = true → VL m bs vs → VL m' as vs
  | [], [], _, _, hv => by simpa only [VL] using hv
  | a :: as, b :: bs, vs, h, hv => by
    simp only [matchAV.matchAVs, Bool.and_eq_true] at h
    simp only [VL] at hv ⊢
    obtain ⟨v, us, e, h1, h2⟩ := hv
    exact ⟨v, us, e, match_sound hs hR a b v h.1 h1, matchs_sound hs hR as bs us h.2 h2⟩
  | [], _ :: _, _, h, _ => by simp [matchAV.matchAVs] at h
  | _ :: _, [], _, h, _ => by simp [matchAV.matchAVs] at h
theorem matchs_cells {nm : Nat → Bool} {ow : Nat → Option Nat} {τ : List SX} {m m' : Env} (hs : m.sees nm ow m') (hR : m'.R = m.R.sub τ) : ∀ (as bs : List AV) (b o : Nat), matchAV.matchAVs nm ow τ as bs = true → VC m b o bs → VC m' b o as
  | [], [], _, _, _, _ => by simp [VC]
  | x :: as, y :: bs, b, o, h, hv => by
    simp only [matchAV.matchAVs, Bool.and_eq_true] at h
    simp only [VC] at hv ⊢
    obtain ⟨⟨v, h1, h2⟩, h3⟩ := hv
    exact ⟨⟨v, hs.ecell h1, match_sound hs hR x y v h.1 h2⟩, matchs_cells hs hR as bs b (o + 1) h.2 h3⟩
  | [], _ :: _, _, _, h, _ => by simp [matchAV.matchAVs] at h
  | _ :: _, [], _, _, h, _ => by simp [matchAV.matchAVs] at h
end

/-! ## Names put into values -/
noncomputable def substAV (φ : Nat → Nat) (τ : List SX) : AV → AV
  | .sy t e => .sy t (subst τ e)
  | .agg cs => .agg (substAVs cs)
  | .fp cs => .fp (substAVs cs)
  | .own i ts e => .own (φ i) ts (subst τ e)
  | .clo f as cs => .clo f (substAVs as) (substAVs cs)
  | .hnd k i => match Nat.beq k 2 with
    | true => .hnd k (φ i)
    | false => .hnd k i
  | a => a
where
  substAVs : List AV → List AV
    | [] => []
    | c :: cs => substAV φ τ c :: substAVs cs

/-- Values that a template may hold. -/
noncomputable def okAV (nm own : Nat → Bool) : AV → Bool
  | .sc _ => true
  | .sy _ _ => true
  | .dead => true
  | .emp _ => true
  | .ptr i _ => nm i
  | .sl i _ _ _ => nm i
  | .agg cs => okAVs cs
  | .fp cs => okAVs cs
  | .own i _ _ => own i
  | .clo _ as cs => okAVs as && okAVs cs
  | .hnd k i => match Nat.beq k 2 with
    | true => own i
    | false => nm i
  | _ => false
where
  okAVs : List AV → Bool
    | [] => true
    | c :: cs => okAV nm own c && okAVs cs

/-- m is a template's environment, m' one around it. -/
structure Env.outs (nm own : Nat → Bool) (φ : Nat → Nat) (τ : List SX) (m m' : Env) : Prop where
  dom : ∀ id, nm id = true → m.dom id → m'.dom id ∧ m'.mu id = m.mu id
  own : ∀ i, own i = true → m.dom i → m'.dom (φ i) ∧ m'.mu (φ i) = m.mu i
  E : ∀ b o, m.E b = some o → m'.E b = some o
  R : m.R = m'.R.sub τ
theorem Env.outs.ecell {nm own : Nat → Bool} {φ : Nat → Nat} {τ : List SX} {m m' : Env} (h : m.outs nm own φ τ m') {b o : Nat} {v : Value} (hv : m.ecell b o = some v) : m'.ecell b o = some v := by
  unfold Env.ecell at *
  cases he : m.E b with
  | none => simp [he] at hv
  | some x => rw [h.E b x he]; simpa [he] using hv

mutual
theorem subst_sound {nm own : Nat → Bool} {φ : Nat → Nat} {τ : List SX} {m m' : Env} (hs : m.outs nm own φ τ m') : ∀ (a : AV) (v : Value), okAV nm own a = true → V m a v → V m' (substAV φ τ a) v := by
  intro a v h hv
  unfold okAV at h
  split at h <;> (try (cases h; done))
  · simpa only [substAV, V] using hv
  · simp only [substAV, V] at hv ⊢
    rw [den_subst, ← hs.R]
    exact hv.emono hs.E
  · simp [substAV, V]
  · simpa only [substAV, V] using hv
  · simp only [substAV, V] at hv ⊢
    obtain ⟨h4, h5⟩ := hs.dom _ h hv.1
    rw [h5]
    exact ⟨h4, hv.2⟩
  · simp only [substAV, V] at hv ⊢
    obtain ⟨h4, h5⟩ := hs.dom _ h hv.1
    rw [h5]
    exact ⟨h4, hv.2⟩
  · simp only [substAV, V] at hv ⊢
    obtain ⟨vs, e, hl⟩ := hv
    exact ⟨vs, e, substs_sound hs _ _ h hl⟩
  · simp only [substAV, V] at hv ⊢
    obtain ⟨b, o, e, hc⟩ := hv
    exact ⟨b, o, e, substs_cells hs _ b o h hc⟩
  · simp only [substAV, V] at hv ⊢
    obtain ⟨h4, h5⟩ := hs.own _ h hv.1
    rw [h5, den_subst, ← hs.R]
    exact ⟨h4, hv.2⟩
  · simp only [Bool.and_eq_true] at h
    simp only [substAV, V] at hv ⊢
    obtain ⟨us, ws, e, k1, k2⟩ := hv
    exact ⟨us, ws, e, substs_sound hs _ _ h.1 k1, substs_sound hs _ _ h.2 k2⟩
  · rename_i k i
    simp only [V] at hv
    simp only [substAV]
    split at h
    · simp only [V]
      obtain ⟨h4, h5⟩ := hs.own _ h hv.1.1
      rw [h5]
      exact ⟨⟨h4, hv.1.2⟩, hv.2⟩
    · simp only [V]
      obtain ⟨h4, h5⟩ := hs.dom _ h hv.1.1
      rw [h5]
      exact ⟨⟨h4, hv.1.2⟩, hv.2⟩
theorem substs_sound {nm own : Nat → Bool} {φ : Nat → Nat} {τ : List SX} {m m' : Env} (hs : m.outs nm own φ τ m') : ∀ (as : List AV) (vs : List Value), okAV.okAVs nm own as = true → VL m as vs → VL m' (substAV.substAVs φ τ as) vs
  | [], _, _, hv => by simpa only [substAV.substAVs, VL] using hv
  | a :: as, vs, h, hv => by
    simp only [okAV.okAVs, Bool.and_eq_true] at h
    simp only [substAV.substAVs, VL] at hv ⊢
    obtain ⟨v, us, e, h1, h2⟩ := hv
    exact ⟨v, us, e, subst_sound hs a v h.1 h1, substs_sound hs as us h.2 h2⟩
theorem substs_cells {nm own : Nat → Bool} {φ : Nat → Nat} {τ : List SX} {m m' : Env} (hs : m.outs nm own φ τ m') : ∀ (as : List AV) (b o : Nat), okAV.okAVs nm own as = true → VC m b o as → VC m' b o (substAV.substAVs φ τ as)
  | [], _, _, _, _ => by simp [substAV.substAVs, VC]
  | a :: as, b, o, h, hv => by
    simp only [okAV.okAVs, Bool.and_eq_true] at h
    simp only [substAV.substAVs, VC] at hv ⊢
    obtain ⟨⟨v, h1, h2⟩, h3⟩ := hv
    exact ⟨⟨v, hs.ecell h1, subst_sound hs a v h.1 h2⟩, substs_cells hs as b (o + 1) h.2 h3⟩
end
end Go.AM
namespace Go.AM
open Go

/-- Loops by contracts stand in no round. -/
instance plainR : Rnd := ⟨none⟩
noncomputable abbrev noFacts (I : Nat → List DV → DV) : Orc := ⟨fun _ => none, I⟩
theorem noFacts_ok (R : Rho) : @FactsOK (noFacts R.I) R := ⟨rfl, fun e b hb => by cases hb⟩

/-! ## A slice as one that grows -/
section
variable {m : Env} {h : AHeap} {w : World}
/-- A row under a new name; how many elements it has room for may be said anew. -/
theorem HR.rename2 (hr : HR m h w) {id k : Nat} {o o' : AObj} (hid : h.t.get id = some o) (ho : OR (m.add h.next ((m.mu id).1, k)) ((m.mu id).1, k) o' w) (hlv : live o (m.mu id)) :
    HR (m.add h.next ((m.mu id).1, k)) (AHeap.alloc { h with t := h.t.cut id } o') w := by
  obtain ⟨g1, g2, g3⟩ := hr.obj id o hid hlv
  have get : ∀ i x, (AHeap.alloc { h with t := h.t.cut id } o').t.get i = some x → (i = h.next ∧ x = o') ∨ (i ≠ id ∧ i ≠ h.next ∧ h.t.get i = some x) := by
    intro i x hi
    simp only [AHeap.alloc, Tr.get_put, Tr.get_cut] at hi
    by_cases e : h.next = i
    · subst e; simp only [if_true, Option.some.injEq] at hi; exact .inl ⟨rfl, hi.symm⟩
    · simp only [e, if_false] at hi
      split at hi
      · cases hi
      · rename_i hne; exact .inr ⟨fun e2 => hne e2.symm, fun e2 => e e2.symm, hi⟩
  have hne : ∀ i x, h.t.get i = some x → live x (m.mu i) → i ≠ id → (m.mu i).1 ≠ (m.mu id).1 := fun i x hi li hne e => hne (hr.injL i id x o hi hid li hlv e)
  have hle := hr.le_add ((m.mu id).1, k)
  have hlim := hr.lim
  refine ⟨fun i hd => ?_, by simp only [AHeap.alloc]; omega, fun i hd => ?_, hr.EF, hr.E, hr.F, fun i y hy => ?_, fun i j a b ha hb li lj e => ?_, hr.io⟩
  · simp only [AHeap.alloc]
    rcases hd with hd | rfl
    · have := hr.next i hd
      omega
    · omega
  · simp only [AHeap.alloc]
    obtain ⟨h1, h2, h3⟩ := hr.res i hd
    refine ⟨?_, by omega, by omega⟩
    rintro (h4 | h4)
    · exact h1 h4
    · exact h2 h4
  · rcases get i y hy with ⟨rfl, rfl⟩ | ⟨h1, h2, h3⟩
    · exact ⟨by simp, fun _ => by simpa using g2, by simpa using ho⟩
    · obtain ⟨k1, k2, k3⟩ := hr.objL i y h3
      rw [hle.mu i k1]
      exact ⟨hle.dom i k1, by simpa using k2, k3.move hle fun _ => rfl⟩
  · rcases get i a ha with ⟨rfl, rfl⟩ | ⟨h1, h2, h3⟩ <;> rcases get j b hb with ⟨rfl, rfl⟩ | ⟨k1, k2, k3⟩
    · rfl
    · rw [hle.mu j (hr.objL j b k3).1] at e lj
      rw [Env.add_mu] at e
      exact absurd e.symm (hne j b k3 lj k1)
    · rw [hle.mu i (hr.objL i a h3).1] at e li
      rw [Env.add_mu] at e
      exact absurd e (hne i a h3 li h1)
    · rw [hle.mu i (hr.objL i a h3).1] at e li
      rw [hle.mu j (hr.objL j b k3).1] at e lj
      exact hr.injL i j a b h3 k3 li lj e

/-- A slice, as one that grows: its name and its content. -/
noncomputable def toOwn (el : TypeId) (ts : List Ty) (a : AV) (h : AHeap) : Option (Nat × SX × AHeap) :=
  match noRoom a with
  | true => some (h.next, .emp, h.alloc (.grow el ts .emp))
  | false => match a with
    | .own id us e => match h.t.get id with
      | some (.grow t vs f) => match Nat.beq t el && eqTy.eqTys us ts && eqTy.eqTys vs ts && eqSX e f with
        | true => some (id, e, h)
        | false => none
      | _ => none
    | .sl id 0 len none => match h.blk? id with
      | some b => match b.row && Nat.beq b.sz ts.length && Nat.beq b.t el && Nat.beq b.n (len * ts.length) && Nat.ble 1 ts.length with
        | true => match rowsM ts len (b.cellsFrom 0 (len * ts.length)) with
          | some E => some (id, E, h.put id (.grow el ts E))
          | none => none
        | false => none
      | none => none
    | .sl id 0 len (some c) => match h.blk? id with
      | some b => match Nat.beq b.t el && Nat.ble (c * ts.length) b.n && Nat.ble len c && Nat.ble c 9223372036854775807 && Nat.ble 1 ts.length && Nat.ble 1 c with
        | true => match rowsM ts len (b.cellsFrom 0 (len * ts.length)) with
          | some E => some (h.next, E, AHeap.alloc { h with t := h.t.cut id } (.grow el ts E))
          | none => none
        | false => none
      | none => none
    | _ => none

/-- A row that grows, out of cells that hold its data. -/
theorem growB_br {m : Env} {p : Nat × Nat} {w : World} {t : TypeId} {ts : List Ty} {E : SX} {L : List (List DV)} {c : Array Value} {as : List AV} (hE : den m.R E = .list L) (hts : 1 ≤ ts.length) (hnm : Names m.R ts L as)
    (b1 : w.heap[p.1]? = some (.cells c t (0, 0))) (b2 : L.length * ts.length ≤ c.size) (b3 : ∀ k, k < L.length * ts.length → ∃ u, c[k]? = some u ∧ ∃ a, as[k]? = some a ∧ V m a u) (b5 : p.2 * ts.length ≤ c.size) (b6 : p.2 ≤ maxLen) (b7 : L.length ≤ p.2) :
    BR m p (growB t ts E L.length) w := by
  refine ⟨c, b1, b2, fun k hk => ?_, fun _ => ⟨b5, b6, Nat.mul_le_mul_right _ b7⟩⟩
  have hk' : k < L.length * ts.length := hk
  obtain ⟨u, u1, a, u3, u2⟩ := b3 k hk'
  refine ⟨u, u1, ?_⟩
  have hi : k / ts.length < L.length := (Nat.div_lt_iff_lt_mul hts).2 hk'
  have hj : k % ts.length < ts.length := Nat.mod_lt _ hts
  have hkk : k / ts.length * ts.length + k % ts.length = k := by rw [Nat.mul_comm]; exact Nat.div_add_mod k _
  have e1 : L[k / ts.length]? = some L[k / ts.length] := List.getElem?_eq_getElem hi
  have e2 : ts[k % ts.length]? = some ts[k % ts.length] := List.getElem?_eq_getElem hj
  have e3 : L[k / ts.length][k % ts.length]? = some (L[k / ts.length][k % ts.length]'(by rw [hnm.2.1 _ (List.getElem_mem _)]; exact hj)) := List.getElem?_eq_getElem _
  have hrep := hnm.2.2 _ _ _ _ _ _ e1 e2 e3 (by rw [hkk]; exact u3) m rfl u u2
  rw [growB_cell hts hk']
  simp only [V, den, hE, atD, Int.ofNat_eq_natCast, Int.toNat_natCast, List.getD_eq_getElem?_getD, e1, Option.getD_some, e3, e2]
  exact hrep

theorem toOwn_sound {el : TypeId} {ts : List Ty} {a : AV} {id : Nat} {E : SX} {h' : AHeap} {v : Value} (hr : HR m h w) (hv : V m a v) (ho : toOwn el ts a h = some (id, E, h')) :
    ∃ m', m.le m' ∧ V m' (.own id ts E) v ∧ HR m' h' w ∧ h'.t.get id = some (.grow el ts E) ∧ ∀ i b, h'.blk? i = some b → h.blk? i = some b := by
  unfold toOwn at ho
  split at ho
  · rename_i hn
    cases ho
    obtain ⟨q1, q2⟩ := hr.phantom el ts .emp
    refine ⟨_, q1, ?_, q2, by simp [AHeap.alloc, Tr.get_put], fun i b hb => ?_⟩
    · have hv0 : ∃ a, v = .slice a 0 0 := by
        unfold noRoom at hn
        split at hn
        · simp only [V] at hv; exact ⟨_, hv⟩
        · simp only [V] at hv
          obtain ⟨_, c, rfl, h2, h3, _⟩ := hv
          have := h3 0 rfl
          subst this
          exact ⟨_, rfl⟩
        · simp only [V] at hv
          obtain ⟨a, c, rfl, h2, h3⟩ := hv
          have := h2 trivial
          subst this
          exact ⟨_, rfl⟩
        · cases hn
      obtain ⟨a, rfl⟩ := hv0
      simp only [V, den]
      exact ⟨by simp, [], a, rfl, by simp, by simp, by simp, by simp, by simp⟩
    · unfold AHeap.blk? AHeap.alloc at *
      simp only [Tr.get_put] at hb
      by_cases e : h.next = i
      · simp [e] at hb
      · simpa [e] using hb
  split at ho
  · rename_i i us e
    split at ho <;> (try (cases ho; done))
    rename_i t vs f hg
    split at ho <;> (try (cases ho; done))
    rename_i hk
    cases ho
    simp only [Bool.and_eq_true, Nat.beq_eq] at hk
    obtain ⟨⟨⟨rfl, h2⟩, h3⟩, h4⟩ := hk
    obtain rfl := eqTys_eq h2
    obtain rfl := eqTys_eq h3
    obtain rfl := eqSX_eq h4
    exact ⟨m, .refl m, hv, hr, hg, fun _ _ h => h⟩
  · rename_i i len
    split at ho <;> (try (cases ho; done))
    rename_i b hb
    split at ho <;> (try (cases ho; done))
    rename_i hk
    split at ho <;> (try (cases ho; done))
    rename_i E' hE
    cases ho
    simp only [Bool.and_eq_true, Nat.beq_eq, Nat.ble_eq] at hk
    obtain ⟨⟨⟨⟨h1, h2⟩, h3⟩, h4⟩, h5⟩ := hk
    obtain ⟨l, e1, e2, e3, _⟩ := rowsM_spec m.R hE (length_cellsFrom _ _ _)
    obtain ⟨q1, q2⟩ := regrow (H2 := h.put id (.grow el ts E)) hr (blk?_some hb) hv e1 e2 h5 e3 h1 h2 h3 h4 (fun k hk => by rw [getElem?_cellsFrom b _ 0 k hk, Nat.zero_add]; rfl) rfl rfl (fun i o ho => by
      simp only [AHeap.put, Tr.get_put] at ho
      by_cases e : id = i
      · subst e; simp only [if_true, Option.some.injEq] at ho; exact .inl ⟨rfl, ho.symm⟩
      · simp only [e, if_false] at ho; exact .inr ⟨Ne.symm e, ho⟩)
    refine ⟨m, .refl m, q1, q2, by simp [AHeap.put, Tr.get_put], fun i b hb => ?_⟩
    unfold AHeap.blk? AHeap.put at *
    simp only [Tr.get_put] at hb
    by_cases e : id = i
    · simp [e] at hb
    · simpa [e] using hb
  · rename_i i len c _
    split at ho <;> (try (cases ho; done))
    rename_i b hb
    split at ho <;> (try (cases ho; done))
    rename_i hk
    split at ho <;> (try (cases ho; done))
    rename_i E' hE
    cases ho
    simp only [Bool.and_eq_true, Nat.beq_eq, Nat.ble_eq] at hk
    obtain ⟨⟨⟨⟨⟨rfl, h2⟩, h3⟩, h4⟩, h5⟩, h6⟩ := hk
    obtain ⟨l, e1, e2, e3, _⟩ := rowsM_spec m.R hE (length_cellsFrom _ _ _)
    obtain ⟨g1, g2, g3⟩ := hr.obj i _ (blk?_some hb)
    obtain ⟨cs, b1, b2, b3, b4⟩ := (show BR m (m.mu i) b w from g3)
    have hle := hr.le_add ((m.mu i).1, c)
    have hlc : len * ts.length ≤ c * ts.length := Nat.mul_le_mul_right _ h3
    have hrn := hr.rename2 (k := c) (o' := .grow b.t ts E) (blk?_some hb) (.inr (.inl ⟨l, e1, e3.2.1, by rw [e2]; exact h3, h5, growB_br (as := b.cellsFrom 0 (len * ts.length)) (by exact e1) h5 e3 b1 (by rw [e2]; omega) (fun k hk => by
      rw [e2] at hk
      obtain ⟨u, u1, u2⟩ := b3 k (by omega)
      refine ⟨u, u1, b.cell k, ?_, V.mono hle _ _ u2⟩
      rw [getElem?_cellsFrom b _ 0 k hk, Nat.zero_add]) (by show c * ts.length ≤ cs.size; omega) (by show c ≤ maxLen; unfold maxLen; omega) (by show l.length ≤ c; rw [e2]; exact h3)⟩)) trivial
    refine ⟨_, hle, ?_, hrn, by simp [AHeap.alloc, Tr.get_put], fun i' b' hb' => ?_⟩
    · simp only [V] at hv ⊢
      obtain ⟨hd, cap, rfl, c1, c2, _⟩ := hv
      have hcap := c2 c rfl
      subst hcap
      refine ⟨by simp, l, some ⟨(m.mu i).1, 0, none⟩, e1, by rw [e2]; simp, by rw [e2]; simpa using h3, by simp; unfold maxLen; omega, (fun e => by cases e), fun _ => by simp⟩
    · unfold AHeap.blk? AHeap.alloc at *
      simp only [Tr.get_put, Tr.get_cut] at hb'
      by_cases e : h.next = i'
      · simp [e] at hb'
      · rw [if_neg e] at hb'
        by_cases e2 : i = i'
        · simp [e2] at hb'
        · simpa [e2] using hb'
  · cases ho
end
end Go.AM
namespace Go.AM
open Go

/-! ## Templates of a state -/
inductive Src where
  | tm (t : Nat) (ty : Ty)
  | cell (id k : Nat) (ty : Ty)
  | row (id k : Nat) (ty : Ty)
  | own (k : Nat)                                   -- the content of the k-th slice that grows
  | part (t k : Nat) (ty : Ty)                      -- a part of a temporary that is made of parts
inductive OSrc where
  | tm (t : Nat) (el : TypeId) (ts : List Ty)
  | cell (id k : Nat) (el : TypeId) (ts : List Ty)
  | mp (t : Nat)                                    -- a map
structure Own where
  id : Nat
  el : TypeId
  ts : List Ty
  e : SX
structure Tmpl where
  tm : List (Nat × AV)
  ob : List (Nat × Blk) := []
  ow : List Own := []
  src : List Src := []
  osrc : List OSrc := []
  isrc : List OSrc := []                            -- slices of the run's own that are data from here on

noncomputable def deadTm : Nat → Tr AV
  | 0 => .nil
  | n + 1 => (deadTm n).put n .dead
noncomputable def mkTm (n : Nat) : List (Nat × AV) → Tr AV
  | [] => deadTm n
  | (t, a) :: l => (mkTm n l).put t a
noncomputable def putOb (t : Tr AObj) : List (Nat × Blk) → Tr AObj
  | [] => t
  | (i, b) :: l => (putOb t l).put i b.obj
noncomputable def putOw (t : Tr AObj) : List Own → Tr AObj
  | [] => t
  | o :: l => (putOw t l).put o.id (.grow o.el o.ts o.e)
noncomputable def bigN : Nat := 1000000
/-- A number above all names of a template. -/
noncomputable def topB : List (Nat × Blk) → Nat
  | [] => bigN
  | (i, _) :: l => Nat.add (Nat.succ i) (topB l)
noncomputable def topO : List Own → Nat
  | [] => bigN
  | o :: l => Nat.add (Nat.succ o.id) (topO l)
theorem topB_gt : ∀ {l : List (Nat × Blk)} {i : Nat} {b : Blk}, (i, b) ∈ l → i < topB l
  | (j, c) :: l, i, b, h => by
    simp only [List.mem_cons, Prod.mk.injEq] at h
    show i < Nat.succ j + topB l
    rcases h with ⟨rfl, rfl⟩ | h
    · omega
    · have := topB_gt h
      omega
theorem topO_gt : ∀ {l : List Own} {o : Own}, o ∈ l → o.id < topO l
  | p :: l, o, h => by
    simp only [List.mem_cons] at h
    show o.id < Nat.succ p.id + topO l
    rcases h with rfl | h
    · omega
    · have := topO_gt h
      omega
noncomputable def Tmpl.top (T : Tmpl) : Nat := Nat.add (topB T.ob) (topO T.ow)
noncomputable def Tmpl.st (T : Tmpl) (n : Nat) : St := { tm := mkTm n T.tm, n, h := { next := T.top, lim := Nat.succ T.top, t := putOw (putOb .nil T.ob) T.ow } }
noncomputable def namesB : List (Nat × Blk) → Nat → Bool
  | [], _ => false
  | (i, _) :: l, id => Nat.beq i id || namesB l id
noncomputable def namesO : List Own → Nat → Bool
  | [], _ => false
  | o :: l, id => Nat.beq o.id id || namesO l id

theorem deadTm_get : ∀ (n t : Nat), (deadTm n).get t = if t < n then some .dead else none
  | 0, t => by simp [deadTm]
  | n + 1, t => by
    rw [deadTm, Tr.get_put, deadTm_get n t]
    by_cases h : n = t
    · subst h; simp
    · rw [if_neg h]
      by_cases h2 : t < n
      · rw [if_pos h2, if_pos (by omega)]
      · rw [if_neg h2, if_neg (by omega)]
theorem mkTm_get (n : Nat) : ∀ (l : List (Nat × AV)) (t : Nat), (∃ a, (t, a) ∈ l ∧ (mkTm n l).get t = some a) ∨ ((∀ a, (t, a) ∉ l) ∧ (mkTm n l).get t = if t < n then some .dead else none)
  | [], t => .inr ⟨by simp, by rw [mkTm, deadTm_get]⟩
  | (u, a) :: l, t => by
    rw [mkTm, Tr.get_put]
    by_cases h : u = t
    · subst h
      exact .inl ⟨a, by simp, by simp⟩
    · rw [if_neg h]
      rcases mkTm_get n l t with ⟨b, h1, h2⟩ | ⟨h1, h2⟩
      · exact .inl ⟨b, by simp [h1], h2⟩
      · refine .inr ⟨fun b hb => ?_, h2⟩
        simp only [List.mem_cons, Prod.mk.injEq] at hb
        rcases hb with ⟨e, _⟩ | hb
        · exact h e.symm
        · exact h1 b hb
theorem putOb_get (t : Tr AObj) : ∀ (l : List (Nat × Blk)) (i : Nat), (∃ b, (i, b) ∈ l ∧ (putOb t l).get i = some b.obj) ∨ (namesB l i = false ∧ (putOb t l).get i = t.get i)
  | [], i => .inr ⟨rfl, rfl⟩
  | (j, b) :: l, i => by
    rw [putOb, Tr.get_put]
    by_cases h : j = i
    · subst h
      exact .inl ⟨b, by simp, by simp⟩
    · rw [if_neg h]
      rcases putOb_get t l i with ⟨c, h1, h2⟩ | ⟨h1, h2⟩
      · exact .inl ⟨c, by simp [h1], h2⟩
      · refine .inr ⟨?_, h2⟩
        rw [namesB, h1, nbeq]
        simp [h]
theorem putOw_get (t : Tr AObj) : ∀ (l : List Own) (i : Nat), (∃ o, o ∈ l ∧ o.id = i ∧ (putOw t l).get i = some (.grow o.el o.ts o.e)) ∨ (namesO l i = false ∧ (putOw t l).get i = t.get i)
  | [], i => .inr ⟨rfl, rfl⟩
  | o :: l, i => by
    rw [putOw, Tr.get_put]
    by_cases h : o.id = i
    · subst h
      exact .inl ⟨o, by simp, rfl, by simp⟩
    · rw [if_neg h]
      rcases putOw_get t l i with ⟨c, h1, h2, h3⟩ | ⟨h1, h2⟩
      · exact .inl ⟨c, by simp [h1], h2, h3⟩
      · refine .inr ⟨?_, h2⟩
        rw [namesO, h1, nbeq]
        simp [h]
theorem namesB_iff : ∀ {l : List (Nat × Blk)} {i : Nat}, namesB l i = true ↔ ∃ b, (i, b) ∈ l
  | [], i => by simp [namesB]
  | (j, b) :: l, i => by
    simp only [namesB, Bool.or_eq_true, Nat.beq_eq, namesB_iff (l := l), List.mem_cons, Prod.mk.injEq]
    constructor
    · rintro (rfl | ⟨c, hc⟩)
      · exact ⟨b, .inl ⟨rfl, rfl⟩⟩
      · exact ⟨c, .inr hc⟩
    · rintro ⟨c, ⟨rfl, _⟩ | hc⟩
      · exact .inl rfl
      · exact .inr ⟨c, hc⟩
theorem namesO_iff : ∀ {l : List Own} {i : Nat}, namesO l i = true ↔ ∃ o ∈ l, o.id = i
  | [], i => by simp [namesO]
  | p :: l, i => by
    simp only [namesO, Bool.or_eq_true, Nat.beq_eq, namesO_iff (l := l), List.mem_cons]
    constructor
    · rintro (h | ⟨c, hc, h⟩)
      · exact ⟨p, .inl rfl, h⟩
      · exact ⟨c, .inr hc, h⟩
    · rintro ⟨c, rfl | hc, h⟩
      · exact .inl h
      · exact .inr ⟨c, hc, h⟩

/-- What stands in the heap of a template. -/
theorem tmpl_get (T : Tmpl) (i : Nat) : (∃ o, o ∈ T.ow ∧ o.id = i ∧ (putOw (putOb .nil T.ob) T.ow).get i = some (.grow o.el o.ts o.e)) ∨
    (namesO T.ow i = false ∧ ∃ b, (i, b) ∈ T.ob ∧ (putOw (putOb .nil T.ob) T.ow).get i = some b.obj) ∨ (namesO T.ow i = false ∧ namesB T.ob i = false ∧ (putOw (putOb .nil T.ob) T.ow).get i = none) := by
  rcases putOw_get (putOb .nil T.ob) T.ow i with h | ⟨h1, h2⟩
  · exact .inl h
  · rcases putOb_get .nil T.ob i with ⟨b, h3, h4⟩ | ⟨h3, h4⟩
    · exact .inr (.inl ⟨h1, b, h3, h2.trans h4⟩)
    · exact .inr (.inr ⟨h1, h3, h2.trans (h4.trans (by simp))⟩)

noncomputable def cellsOK (f : Nat → Bool) : Nat → Bool
  | 0 => true
  | n + 1 => f n && cellsOK f n
theorem cellsOK_get {f : Nat → Bool} : ∀ {n i : Nat}, cellsOK f n = true → i < n → f i = true
  | n + 1, i, h, hi => by
    simp only [cellsOK, Bool.and_eq_true] at h
    rcases Nat.lt_succ_iff_lt_or_eq.1 hi with h1 | h1
    · exact cellsOK_get h.2 h1
    · rw [h1]; exact h.1

/-- Block a, a template, holds of what block b holds of. -/
noncomputable def matchBlk (nm : Nat → Bool) (ow : Nat → Option Nat) (τ : List SX) (a b : Blk) : Bool :=
  Nat.beq a.t b.t && Nat.ble a.n b.n && (Bool.not a.row || (b.row && Nat.beq a.sz b.sz)) && cellsOK (fun i => matchAV nm ow τ (a.cell i) (b.cell i)) a.n
theorem matchBlk_sound {nm : Nat → Bool} {ow : Nat → Option Nat} {τ : List SX} {m m' : Env} (hs : m.sees nm ow m') (hR : m'.R = m.R.sub τ) {a b : Blk} (h : matchBlk nm ow τ a b = true) {p : Nat × Nat} {w : World} (hb : BR m p b w) : BR m' p a w := by
  simp only [matchBlk, Bool.and_eq_true, Nat.beq_eq, Nat.ble_eq, Bool.or_eq_true, Bool.not_eq_true'] at h
  obtain ⟨⟨⟨h1, h2⟩, h3⟩, h4⟩ := h
  obtain ⟨c, g1, g2, g3, g4⟩ := hb
  refine ⟨c, by rw [h1]; exact g1, by omega, fun i hi => ?_, fun hr => ?_⟩
  · obtain ⟨v, k1, k2⟩ := g3 i (by omega)
    exact ⟨v, k1, match_sound hs hR _ _ v (cellsOK_get h4 hi) k2⟩
  · rcases h3 with h3 | h3
    · rw [h3] at hr; cases hr
    · rw [h3.2]
      have := g4 h3.1
      exact ⟨this.1, this.2.1, Nat.le_trans h2 this.2.2⟩

/-- An object of the heap is what a template's block says. -/
noncomputable def matchObj (nm : Nat → Bool) (ow : Nat → Option Nat) (τ : List SX) (a : Blk) (o : AObj) : Bool :=
  match a.lp, o with
  | none, .blk b => matchBlk nm ow τ a b
  | some x, .loop st pend tm n ps asg body => Nat.beq x.st st && (eqExO x.pend pend && (Nat.beq a.n n && (eqArr Nat.beq x.ps ps && (eqCode x.asg asg && (eqCode x.body body && cellsOK (fun i => matchAV nm ow τ (a.cell i) (tmV tm i)) a.n)))))
  | _, _ => false
theorem matchObj_live {nm : Nat → Bool} {ow : Nat → Option Nat} {τ : List SX} {a : Blk} {o : AObj} (h : matchObj nm ow τ a o = true) (p : Nat × Nat) : live o p := by
  unfold matchObj at h
  split at h
  · exact True.intro
  · exact True.intro
  · cases h
theorem matchObj_nogrow {nm : Nat → Bool} {ow : Nat → Option Nat} {τ : List SX} {a : Blk} {el : TypeId} {ts : List Ty} {e : SX} (h : matchObj nm ow τ a (.grow el ts e) = true) : False := by
  unfold matchObj at h
  split at h
  · rename_i hx; cases hx
  · rename_i hx; cases hx
  · cases h
theorem matchObj_sound {nm : Nat → Bool} {ow : Nat → Option Nat} {τ : List SX} {m m' : Env} (hs : m.sees nm ow m') (hR : m'.R = m.R.sub τ) {a : Blk} {o : AObj} (h : matchObj nm ow τ a o = true) {p : Nat × Nat} {w : World} (hb : OR m p o w) : OR m' p a.obj w := by
  unfold matchObj at h
  unfold Blk.obj
  split at h
  · rename_i b hl
    rw [hl]
    exact matchBlk_sound hs hR h hb
  · rename_i x st pend tm n ps asg body hl
    rw [hl]
    simp only [Bool.and_eq_true, Nat.beq_eq] at h
    obtain ⟨rfl, h2, rfl, h4, h5, h6, h7⟩ := h
    have e2 := eqExO_eq h2
    have e4 := eqArr_eq natBeq_eq h4
    have e5 := eqCode_eq h5
    have e6 := eqCode_eq h6
    subst e2 e4 e5 e6
    obtain ⟨fn, d, tmps, k1, k2, k3⟩ := hb
    refine ⟨fn, d, tmps, k1, k2, fun t => ?_⟩
    rw [Blk.tms_get]
    by_cases ht : t < a.n
    · rw [if_pos ht, Option.getD_some]
      exact match_sound hs hR _ _ _ (cellsOK_get h7 ht) (k3 t)
    · rw [if_neg ht]
      simp only [Option.getD_none, V]
      have : tmps.size ≤ t := by omega
      simp [Array.getD, Nat.not_lt.2 this]
  · cases h

/-- Under which name a template's slice goes outside. -/
noncomputable def owF : List Own → List Nat → Nat → Option Nat
  | o :: l, j :: js, i => match Nat.beq o.id i with
    | true => some j
    | false => owF l js i
  | _, _, _ => none
noncomputable def matchTms (nm : Nat → Bool) (ow : Nat → Option Nat) (τ : List SX) (n : Nat) (tm : Tr AV) : List (Nat × AV) → Bool
  | [] => true
  | (t, a) :: l => Nat.blt t n && matchAV nm ow τ a (tmV tm t) && matchTms nm ow τ n tm l
noncomputable def matchObs (nm : Nat → Bool) (ow : Nat → Option Nat) (τ : List SX) (h : AHeap) : List (Nat × Blk) → Bool
  | [] => true
  | (i, b) :: l => (match h.t.get i with
    | some c => matchObj nm ow τ b c
    | none => false) && matchObs nm ow τ h l
noncomputable def memN (j : Nat) : List Nat → Bool
  | [] => false
  | k :: ks => Nat.beq k j || memN j ks
/-- The slices that grow: each stands, each but once. -/
noncomputable def matchOws (ob : List (Nat × Blk)) (τ : List SX) (h : AHeap) : List Own → List Nat → Bool
  | [], [] => true
  | o :: l, j :: js => (match h.t.get j with
    | some (.grow t ts e) => Nat.beq t o.el && eqTy.eqTys ts o.ts && eqSX (subst τ o.e) e
    | _ => false) && Bool.not (memN j js) && Bool.not (namesO l o.id) && Bool.not (namesB ob o.id) && matchOws ob τ h l js
  | _, _ => false
/-- No deferred calls. -/
noncomputable def bareDf (s : St) : Bool :=
  match s.df with
  | some [] => true
  | _ => false
theorem RS.plain [O : Orc] {m : Env} {G : Nat → Option (List AV)} {s : St} {a : Act} {w : World} (hr : RS m G s a w) (h : bareDf s = true) : a.defers = [] := by
  have hd := hr.defers
  unfold bareDf at h
  split at h
  · rename_i e
    rw [e] at hd
    exact hd
  · cases h
/-- The state is what the template says. -/
noncomputable def matchSt (T : Tmpl) (ω : List Nat) (τ : List SX) (s : St) : Bool :=
  matchTms (namesB T.ob) (owF T.ow ω) τ s.n s.tm T.tm && matchObs (namesB T.ob) (owF T.ow ω) τ s.h T.ob && matchOws T.ob τ s.h T.ow ω && bareDf s

theorem matchTms_get {nm : Nat → Bool} {ow : Nat → Option Nat} {τ : List SX} {n : Nat} {tm : Tr AV} : ∀ {l : List (Nat × AV)} {t : Nat} {a : AV}, matchTms nm ow τ n tm l = true → (t, a) ∈ l → t < n ∧ matchAV nm ow τ a (tmV tm t) = true
  | (u, b) :: l, t, a, h, hm => by
    simp only [matchTms, Bool.and_eq_true] at h
    simp only [List.mem_cons, Prod.mk.injEq] at hm
    rcases hm with ⟨rfl, rfl⟩ | hm
    · exact ⟨blt_lt h.1.1, h.1.2⟩
    · exact matchTms_get h.2 hm
theorem matchObs_get {nm : Nat → Bool} {ow : Nat → Option Nat} {τ : List SX} {h : AHeap} : ∀ {l : List (Nat × Blk)} {i : Nat} {b : Blk}, matchObs nm ow τ h l = true → (i, b) ∈ l → ∃ c, h.t.get i = some c ∧ matchObj nm ow τ b c = true
  | (j, c) :: l, i, b, hh, hm => by
    simp only [matchObs, Bool.and_eq_true] at hh
    simp only [List.mem_cons, Prod.mk.injEq] at hm
    rcases hm with ⟨rfl, rfl⟩ | hm
    · have := hh.1
      split at this
      · rename_i c e
        exact ⟨c, e, this⟩
      · cases this
    · exact matchObs_get hh.2 hm
theorem memN_iff {j : Nat} : ∀ {l : List Nat}, memN j l = true ↔ j ∈ l
  | [] => by simp [memN]
  | k :: ks => by
    simp only [memN, Bool.or_eq_true, Nat.beq_eq, memN_iff (l := ks), List.mem_cons]
    constructor
    · rintro (h | h)
      · exact .inl h.symm
      · exact .inr h
    · rintro (h | h)
      · exact .inl h.symm
      · exact .inr h
theorem owF_mem : ∀ {l : List Own} {js : List Nat} {i j : Nat}, owF l js i = some j → j ∈ js ∧ namesO l i = true
  | o :: l, k :: js, i, j, h => by
    simp only [owF] at h
    split at h
    · rename_i e
      cases h
      exact ⟨by simp, by rw [namesO, e]; rfl⟩
    · obtain ⟨h1, h2⟩ := owF_mem h
      exact ⟨by simp [h1], by rw [namesO, h2]; simp⟩
  | [], _, _, _, h => by simp [owF] at h
  | _ :: _, [], _, _, h => by simp [owF] at h
theorem matchOws_get {ob : List (Nat × Blk)} {τ : List SX} {h : AHeap} : ∀ {l : List Own} {js : List Nat} {o : Own}, matchOws ob τ h l js = true → o ∈ l → ∃ j e, owF l js o.id = some j ∧ h.t.get j = some (.grow o.el o.ts e) ∧ subst τ o.e = e ∧ namesB ob o.id = false
  | p :: l, k :: js, o, hh, hm => by
    simp only [matchOws, Bool.and_eq_true, Bool.not_eq_true'] at hh
    obtain ⟨⟨⟨⟨h1, h2⟩, h3⟩, h4⟩, h5⟩ := hh
    rcases List.mem_cons.1 hm with rfl | hm
    · split at h1
      · rename_i t ts e hg
        simp only [Bool.and_eq_true, Nat.beq_eq] at h1
        obtain ⟨⟨rfl, g2⟩, g3⟩ := h1
        obtain rfl := eqTys_eq g2
        exact ⟨k, e, by simp [owF], hg, eqSX_eq g3, h4⟩
      · cases h1
    · obtain ⟨j, e, g1, g2, g3, g4⟩ := matchOws_get h5 hm
      have hne : Nat.beq p.id o.id = false := by
        rw [nbeq, decide_eq_false_iff_not]
        intro e
        rw [e, Bool.eq_false_iff] at h3
        exact h3 (namesO_iff.2 ⟨o, hm, rfl⟩)
      exact ⟨j, e, by rw [owF, hne]; exact g1, g2, g3, g4⟩
  | _ :: _, [], _, hh, _ => by simp [matchOws] at hh
theorem matchOws_inj {ob : List (Nat × Blk)} {τ : List SX} {h : AHeap} : ∀ {l : List Own} {js : List Nat} {i i' j : Nat}, matchOws ob τ h l js = true → owF l js i = some j → owF l js i' = some j → i = i'
  | p :: l, k :: js, i, i', j, hh, h1, h2 => by
    simp only [matchOws, Bool.and_eq_true, Bool.not_eq_true'] at hh
    obtain ⟨⟨⟨⟨_, g2⟩, g3⟩, g4⟩, g5⟩ := hh
    simp only [owF] at h1 h2
    have hk : k ∉ js := by rw [← memN_iff, g2]; simp
    split at h1 <;> split at h2
    · rename_i _ e1 _ e2
      rw [Nat.beq_eq] at e1 e2
      rw [← e1, ← e2]
    · cases h1
      exact absurd (owF_mem h2).1 hk
    · cases h2
      exact absurd (owF_mem h1).1 hk
    · exact matchOws_inj g5 h1 h2
  | [], _, _, _, _, _, h1, _ => by simp [owF] at h1
  | _ :: _, [], _, _, _, hh, _, _ => by simp [matchOws] at hh
theorem owF_grow {ob : List (Nat × Blk)} {τ : List SX} {h : AHeap} : ∀ {l : List Own} {js : List Nat} {i j : Nat}, matchOws ob τ h l js = true → owF l js i = some j → ∃ o ∈ l, o.id = i ∧ ∃ e, h.t.get j = some (.grow o.el o.ts e) ∧ subst τ o.e = e ∧ namesB ob i = false := by
  intro l js i j hh hj
  obtain ⟨o, ho, rfl⟩ := namesO_iff.1 (owF_mem hj).2
  obtain ⟨j', e, g1, g2, g3, g4⟩ := matchOws_get hh ho
  rw [hj] at g1
  cases g1
  exact ⟨o, ho, rfl, e, g2, g3, g4⟩

open Classical in
/-- The environment in which a template's names are the only ones; all else is laid by. -/
noncomputable def Env.inner (m : Env) (R : Rho) (T : Tmpl) (ω : List Nat) (w : World) : Env :=
  { R, mu := fun i => match owF T.ow ω i with
      | some j => m.mu j
      | none => m.mu i
    dom := fun id => namesB T.ob id = true ∨ namesO T.ow id = true, res := fun _ => False, E := m.E,
    F := fun b => if m.E b = none ∧ ¬ (∃ id, namesB T.ob id = true ∧ (m.mu id).1 = b) ∧ ¬ (∃ i j, owF T.ow ω i = some j ∧ (m.mu j).2 ≠ 0 ∧ (m.mu j).1 = b) then w.heap[b]? else none, io := m.io }

section
variable [O : Orc] {G : Nat → Option (List AV)} {m : Env} {s : St} {a : Act} {w : World} {T : Tmpl} {τ : List SX} {ω : List Nat}

structure Matched (T : Tmpl) (ω : List Nat) (τ : List SX) (s : St) : Prop where
  tm : matchTms (namesB T.ob) (owF T.ow ω) τ s.n s.tm T.tm = true
  ob : matchObs (namesB T.ob) (owF T.ow ω) τ s.h T.ob = true
  ow : matchOws T.ob τ s.h T.ow ω = true
  df : bareDf s = true
theorem matched_of (h : matchSt T ω τ s = true) : Matched T ω τ s := by
  simp only [matchSt, Bool.and_eq_true] at h
  exact ⟨h.1.1.1, h.1.1.2, h.1.2, h.2⟩

theorem matched_blk (hm : Matched T ω τ s) {id : Nat} (hid : namesB T.ob id = true) : ∃ b c, (id, b) ∈ T.ob ∧ s.h.t.get id = some c ∧ matchObj (namesB T.ob) (owF T.ow ω) τ b c = true := by
  obtain ⟨b, hb⟩ := namesB_iff.1 hid
  obtain ⟨c, h2, h3⟩ := matchObs_get hm.ob hb
  exact ⟨b, c, hb, h2, h3⟩
theorem blk_noown (hm : Matched T ω τ s) {id : Nat} (hid : namesB T.ob id = true) : owF T.ow ω id = none := by
  cases h : owF T.ow ω id with
  | none => rfl
  | some j =>
    obtain ⟨o, _, rfl, e, _, _, h6⟩ := owF_grow hm.ow h
    rw [hid] at h6
    cases h6

theorem inner_sees (hr : HR m s.h w) (hm : Matched T ω τ s) (R : Rho) : m.sees (namesB T.ob) (owF T.ow ω) (m.inner R T ω w) :=
  ⟨fun id hid _ => ⟨.inl hid, by simp only [Env.inner, blk_noown hm hid]⟩, fun i j e _ => ⟨.inr (owF_mem e).2, by simp only [Env.inner, e]⟩, fun _ _ e => e⟩

/-- INTO A TEMPLATE. -/
theorem RS.into {l2 : SX → Option Bool} {I2 : Nat → List DV → DV} (hG : PlainG G) (hr : @RS O plainR m G s a w) (hm : Matched T ω τ s) (hF : @FactsOK (.mk l2 I2) (m.R.sub τ)) : @RS (.mk l2 I2) plainR (m.inner (m.R.sub τ) T ω w) G (T.st s.n) a w := by
  have hs := inner_sees hr.h hm (m.R.sub τ)
  refine @RS.mk (.mk l2 I2) plainR _ _ _ _ _ hr.size (fun t => ?_) (hr.plain hm.df) (fun _ => rfl) ?_ (@GOK.mk (.mk l2 I2) _ _ ?_ hF)
  · rcases mkTm_get s.n T.tm t with ⟨x, h1, h2⟩ | ⟨h1, h2⟩
    · show V _ (((mkTm s.n T.tm).get t).getD (.sc undef)) _
      rw [h2, Option.getD_some]
      exact match_sound hs rfl _ _ _ (matchTms_get hm.tm h1).2 (hr.tm t)
    · show V _ (((mkTm s.n T.tm).get t).getD (.sc undef)) _
      rw [h2]
      by_cases ht : t < s.n
      · rw [if_pos ht]; simp [V]
      · rw [if_neg ht]
        simp only [Option.getD_none, V]
        have : a.tmps.size ≤ t := by rw [hr.size]; omega
        simp [Array.getD, Nat.not_lt.2 this]
  · have growM : ∀ {i j : Nat}, owF T.ow ω i = some j → ∃ o ∈ T.ow, o.id = i ∧ ∃ e, s.h.t.get j = some (.grow o.el o.ts e) ∧ subst τ o.e = e := fun h => by
      obtain ⟨o, h1, h2, e, h3, h4, _⟩ := owF_grow hm.ow h
      exact ⟨o, h1, h2, e, h3, h4⟩
    refine ⟨fun id hd => ?_, Nat.lt_succ_self _, fun _ hd => hd.elim, fun b x hb => ?_, fun b o hb => hr.h.E b o hb, fun b o hb => ?_, fun id o ho => ?_, fun i j x y hi hj li lj e => ?_, hr.h.io⟩
    · show id ≠ T.top ∧ id < T.top + 1
      have : id < T.top := by
        show id < topB T.ob + topO T.ow
        rcases hd with hd | hd
        · obtain ⟨b, hb⟩ := namesB_iff.1 hd
          have := topB_gt hb
          omega
        · obtain ⟨o, ho, rfl⟩ := namesO_iff.1 hd
          have := topO_gt ho
          omega
      omega
    · simp only [Env.inner] at hb ⊢
      split at hb
      · rename_i hc; exact hc.1
      · cases hb
    · simp only [Env.inner] at hb
      split at hb
      · exact hb
      · cases hb
    · have ho' : (putOw (putOb .nil T.ob) T.ow).get id = some o := ho
      rcases tmpl_get T id with ⟨p, h1, rfl, h3⟩ | ⟨h0, b, h1, h3⟩ | ⟨h0, h1, h3⟩
      · rw [h3] at ho'
        cases ho'
        obtain ⟨j, e, g1, g2, rfl, _⟩ := matchOws_get hm.ow h1
        obtain ⟨k1, k2, k3⟩ := hr.h.objL j _ g2
        have hmu : (m.inner (m.R.sub τ) T ω w).mu p.id = m.mu j := by simp only [Env.inner, g1]
        refine ⟨.inr (namesO_iff.2 ⟨p, h1, rfl⟩), fun hl => ?_, ?_⟩
        · rw [hmu] at hl ⊢
          obtain ⟨k4, k5⟩ := k2 hl
          refine ⟨k4, ?_⟩
          simp only [Env.inner]
          rw [if_neg]
          rintro ⟨_, _, h6⟩
          exact h6 ⟨p.id, j, g1, hl, rfl⟩
        · rw [hmu]
          rcases k3 with k3 | ⟨l, e1, e2, e3, e4, c, b1, b2, b3, b4⟩ | k3
          · exact .inl k3
          · refine .inr (.inl ⟨l, by show den (m.R.sub τ) p.e = _; rw [← den_subst]; exact e1, e2, e3, e4, c, b1, b2, fun k hk => ?_, b4⟩)
            obtain ⟨u, u1, u2⟩ := b3 k hk
            refine ⟨u, u1, ?_⟩
            rw [growB_cell e4 (show k < l.length * p.ts.length from hk)] at u2 ⊢
            simp only [V, den] at u2 ⊢
            rw [e1] at u2
            rw [show den (m.inner (m.R.sub τ) T ω w).R p.e = .list l by show den (m.R.sub τ) p.e = _; rw [← den_subst]; exact e1]
            exact Rep.emono (m := m) (m' := m.inner (m.R.sub τ) T ω w) (fun _ _ h => h) u2
          · exact .inr (.inr (k3.move (by show den (m.R.sub τ) p.e = _; rw [← den_subst]) rfl))
      · rw [h3] at ho'
        cases ho'
        have hid : namesB T.ob id = true := namesB_iff.2 ⟨b, h1⟩
        have hmu : (m.inner (m.R.sub τ) T ω w).mu id = m.mu id := by simp only [Env.inner, blk_noown hm hid]
        obtain ⟨c, h4, h5⟩ := matchObs_get hm.ob h1
        obtain ⟨k1, k2, k3⟩ := hr.h.obj id _ h4 (matchObj_live h5 _)
        refine ⟨.inl hid, fun _ => ⟨by rw [hmu]; exact k2.1, ?_⟩, by rw [hmu]; exact matchObj_sound hs rfl h5 k3⟩
        rw [hmu]
        simp only [Env.inner]
        rw [if_neg]
        rintro ⟨_, h6, _⟩
        exact h6 ⟨id, hid, rfl⟩
      · rw [h3] at ho'
        cases ho'
    · have out : ∀ i x, (putOw (putOb .nil T.ob) T.ow).get i = some x → live x ((m.inner (m.R.sub τ) T ω w).mu i) → ∃ k y, s.h.t.get k = some y ∧ live y (m.mu k) ∧ (m.inner (m.R.sub τ) T ω w).mu i = m.mu k ∧ ((owF T.ow ω i = some k) ∨ (k = i ∧ namesB T.ob i = true ∧ ∀ el ts e, y ≠ .grow el ts e)) := by
        intro i x hx lx
        rcases tmpl_get T i with ⟨p, h1, rfl, h3⟩ | ⟨h0, b, h1, h3⟩ | ⟨h0, h1, h3⟩
        · rw [h3] at hx
          cases hx
          obtain ⟨j, e, g1, g2, _, _⟩ := matchOws_get hm.ow h1
          have hmu : (m.inner (m.R.sub τ) T ω w).mu p.id = m.mu j := by simp only [Env.inner, g1]
          rw [hmu] at lx
          exact ⟨j, _, g2, lx, hmu, .inl g1⟩
        · have hid : namesB T.ob i = true := namesB_iff.2 ⟨b, h1⟩
          obtain ⟨c, h4, h5⟩ := matchObs_get hm.ob h1
          exact ⟨i, _, h4, matchObj_live h5 _, by simp only [Env.inner, blk_noown hm hid], .inr ⟨rfl, hid, fun el ts e hy => by subst hy; exact matchObj_nogrow h5⟩⟩
        · rw [h3] at hx
          cases hx
      obtain ⟨k1, y1, a1, a2, a3, a4⟩ := out i x hi li
      obtain ⟨k2, y2, b1, b2, b3, b4⟩ := out j y hj lj
      rw [a3, b3] at e
      have hk := hr.h.injL k1 k2 y1 y2 a1 b1 a2 b2 e
      subst hk
      rw [a1] at b1
      cases b1
      rcases a4 with a4 | ⟨rfl, _, hc⟩ <;> rcases b4 with b4 | ⟨rfl, _, hc'⟩
      · exact matchOws_inj hm.ow a4 b4
      · obtain ⟨o, _, _, e', h6, _⟩ := growM a4
        rw [a1] at h6
        exact absurd (Option.some.inj h6) (hc' _ _ _)
      · obtain ⟨o, _, _, e', h6, _⟩ := growM b4
        rw [a1] at h6
        exact absurd (Option.some.inj h6) (hc _ _ _)
      · rfl
  · intro g cs e
    have := hr.g.g g cs e
    have hp := hG g cs e
    have key : ∀ (cs : List AV) (o : Nat), (∀ c ∈ cs, ∃ u, c = AV.sc u) → VC m g o cs → VC (m.inner (m.R.sub τ) T ω w) g o cs := by
      intro cs
      induction cs with
      | nil => intro o _ _; simp [VC]
      | cons c cs ih =>
        intro o hp hv
        simp only [VC] at hv ⊢
        obtain ⟨⟨v, h1, h2⟩, h3⟩ := hv
        obtain ⟨u, rfl⟩ := hp c (by simp)
        exact ⟨⟨v, h1, by simpa [V] using h2⟩, ih _ (fun c hc => hp c (List.mem_cons_of_mem _ hc)) h3⟩
    exact key cs 0 hp this
end
end Go.AM
namespace Go.AM
open Go

/-! ## Out of a template -/
/-- The name outside of a slice that grows. -/
noncomputable def frF : List Own → Nat → Nat → Nat
  | o :: l, b, i => match Nat.beq o.id i with
    | true => b
    | false => frF l (Nat.succ b) i
  | [], _, i => i
noncomputable def cutAll (t : Tr AObj) : List Nat → Tr AObj
  | [] => t
  | j :: js => (cutAll t js).cut j
noncomputable def substTm (φ : Nat → Nat) (τ : List SX) : List (Nat × AV) → List (Nat × AV)
  | [] => []
  | (t, a) :: l => (t, substAV φ τ a) :: substTm φ τ l
/-- All cells of a block, put one by one. -/
noncomputable def Blk.all (b : Blk) (f : AV → AV) : Blk := { b with z := [], c := Blk.putAll .nil 0 ((b.cellsFrom 0 b.n).map f) }
noncomputable def substOb (φ : Nat → Nat) (τ : List SX) : List (Nat × Blk) → List (Nat × Blk)
  | [] => []
  | (i, b) :: l => (i, b.all (substAV φ τ)) :: substOb φ τ l
noncomputable def substOw (τ : List SX) : List Own → Nat → List Own
  | [], _ => []
  | o :: l, b => { o with id := b, e := subst τ o.e } :: substOw τ l (Nat.succ b)
noncomputable def okTm (nm own : Nat → Bool) (n : Nat) : List (Nat × AV) → Bool
  | [] => true
  | (t, a) :: l => Nat.blt t n && okAV nm own a && okTm nm own n l
noncomputable def okOb (nm own : Nat → Bool) : List (Nat × Blk) → Bool
  | [] => true
  | (i, b) :: l => nm i && okAV.okAVs nm own (b.cellsFrom 0 b.n) && okOb nm own l
noncomputable def covers (ob : List (Nat × Blk)) : List (Nat × Blk) → Bool
  | [] => true
  | (i, _) :: l => namesB ob i && covers ob l
noncomputable def okOw (nm : Nat → Bool) : List Own → Bool
  | [] => true
  | o :: l => Bool.not (namesO l o.id) && Bool.not (nm o.id) && okOw nm l
/-- An end of a loop whose head is T. -/
noncomputable def Tmpl.ok (Y T : Tmpl) (n : Nat) : Bool := okTm (namesB T.ob) (namesO Y.ow) n Y.tm && okOb (namesB T.ob) (namesO Y.ow) Y.ob && covers Y.ob T.ob && okOw (namesB T.ob) Y.ow
noncomputable def Tmpl.outer (Y : Tmpl) (ω : List Nat) (σ : List SX) (s : St) : St :=
  { tm := mkTm s.n (substTm (frF Y.ow s.h.lim) σ Y.tm), n := s.n,
    h := { next := Nat.add s.h.lim Y.ow.length, lim := Nat.succ (Nat.add s.h.lim Y.ow.length), t := putOw (putOb (cutAll s.h.t ω) (substOb (frF Y.ow s.h.lim) σ Y.ob)) (substOw σ Y.ow s.h.lim) } }

theorem all_cell (b : Blk) (f : AV → AV) {i : Nat} (hi : i < b.n) : (b.all f).cell i = f (b.cell i) := by
  unfold Blk.all
  have := cell_putAll { b with z := [], c := .nil } ((b.cellsFrom 0 b.n).map f) 0 i
  simp only at this
  show ({ b with z := [], c := Blk.putAll .nil 0 ((b.cellsFrom 0 b.n).map f) } : Blk).cell i = _
  rw [this, if_pos ⟨Nat.zero_le _, by simp [length_cellsFrom]; exact hi⟩]
  simp only [Nat.sub_zero, List.getElem?_map, getElem?_cellsFrom b b.n 0 i hi, Nat.zero_add, Option.map_some, Option.getD_some]
theorem okAVs_get {nm own : Nat → Bool} : ∀ {as : List AV} {i : Nat} {a : AV}, okAV.okAVs nm own as = true → as[i]? = some a → okAV nm own a = true
  | x :: xs, 0, a, h, hi => by
    simp only [okAV.okAVs, Bool.and_eq_true] at h
    simp only [List.getElem?_cons_zero, Option.some.injEq] at hi
    rw [← hi]; exact h.1
  | x :: xs, i + 1, a, h, hi => by
    simp only [okAV.okAVs, Bool.and_eq_true] at h
    exact okAVs_get h.2 (by simpa using hi)
theorem BR.map {m m' : Env} {p : Nat × Nat} {b : Blk} {w : World} {f : AV → AV} (h : BR m p b w) (hf : ∀ i v, i < b.n → V m (b.cell i) v → V m' (f (b.cell i)) v) : BR m' p (b.all f) w := by
  obtain ⟨c, g1, g2, g3, g4⟩ := h
  refine ⟨c, g1, g2, fun i hi => ?_, g4⟩
  have hi' : i < b.n := hi
  obtain ⟨v, k1, k2⟩ := g3 i hi'
  exact ⟨v, k1, by rw [all_cell b f hi']; exact hf i v hi' k2⟩
theorem okTm_get {nm own : Nat → Bool} {n : Nat} : ∀ {l : List (Nat × AV)} {t : Nat} {a : AV}, okTm nm own n l = true → (t, a) ∈ l → t < n ∧ okAV nm own a = true
  | (u, b) :: l, t, a, h, hm => by
    simp only [okTm, Bool.and_eq_true] at h
    simp only [List.mem_cons, Prod.mk.injEq] at hm
    rcases hm with ⟨rfl, rfl⟩ | hm
    · exact ⟨blt_lt h.1.1, h.1.2⟩
    · exact okTm_get h.2 hm
theorem okOb_get {nm own : Nat → Bool} : ∀ {l : List (Nat × Blk)} {i : Nat} {b : Blk}, okOb nm own l = true → (i, b) ∈ l → nm i = true ∧ okAV.okAVs nm own (b.cellsFrom 0 b.n) = true
  | (j, c) :: l, i, b, h, hm => by
    simp only [okOb, Bool.and_eq_true] at h
    simp only [List.mem_cons, Prod.mk.injEq] at hm
    rcases hm with ⟨rfl, rfl⟩ | hm
    · exact h.1
    · exact okOb_get h.2 hm
theorem covers_get {ob : List (Nat × Blk)} : ∀ {l : List (Nat × Blk)} {i : Nat} {b : Blk}, covers ob l = true → (i, b) ∈ l → namesB ob i = true
  | (j, c) :: l, i, b, h, hm => by
    simp only [covers, Bool.and_eq_true] at h
    simp only [List.mem_cons, Prod.mk.injEq] at hm
    rcases hm with ⟨rfl, rfl⟩ | hm
    · exact h.1
    · exact covers_get h.2 hm
theorem okOw_get {nm : Nat → Bool} : ∀ {l : List Own} {o : Own}, okOw nm l = true → o ∈ l → nm o.id = false
  | p :: l, o, h, hm => by
    simp only [okOw, Bool.and_eq_true, Bool.not_eq_true'] at h
    rcases List.mem_cons.1 hm with rfl | hm
    · exact h.1.2
    · exact okOw_get h.2 hm
theorem frF_get {nm : Nat → Bool} : ∀ {l : List Own} {b k : Nat} {o : Own}, okOw nm l = true → l[k]? = some o → frF l b o.id = b + k
  | p :: l, b, 0, o, h, hk => by
    simp only [List.getElem?_cons_zero, Option.some.injEq] at hk
    subst hk
    simp [frF]
  | p :: l, b, k + 1, o, h, hk => by
    simp only [okOw, Bool.and_eq_true, Bool.not_eq_true'] at h
    have hk' : l[k]? = some o := by simpa using hk
    have hne : Nat.beq p.id o.id = false := by
      rw [nbeq, decide_eq_false_iff_not]
      intro e
      have := h.1.1
      rw [e, Bool.eq_false_iff] at this
      exact this (namesO_iff.2 ⟨o, List.mem_iff_getElem?.2 ⟨k, hk'⟩, rfl⟩)
    rw [frF, hne]
    rw [frF_get (b := Nat.succ b) h.2 hk']
    show b + 1 + k = _
    omega
theorem owId_inj {nm : Nat → Bool} : ∀ {l : List Own} {k k' : Nat} {o o' : Own}, okOw nm l = true → l[k]? = some o → l[k']? = some o' → o.id = o'.id → k = k' := by
  intro l k k' o o' h h1 h2 e
  have e1 := frF_get (b := 0) h h1
  have e2 := frF_get (b := 0) h h2
  rw [e, e2] at e1
  omega
theorem substTm_get {φ : Nat → Nat} {τ : List SX} {n : Nat} : ∀ (l : List (Nat × AV)) (t : Nat), (∃ a, (t, a) ∈ l ∧ (mkTm n l).get t = some a ∧ (mkTm n (substTm φ τ l)).get t = some (substAV φ τ a)) ∨
    ((∀ a, (t, a) ∉ l) ∧ (mkTm n l).get t = (if t < n then some .dead else none) ∧ (mkTm n (substTm φ τ l)).get t = if t < n then some .dead else none)
  | [], t => .inr ⟨by simp, by rw [mkTm, deadTm_get], by rw [substTm, mkTm, deadTm_get]⟩
  | (u, a) :: l, t => by
    rw [mkTm, substTm, mkTm, Tr.get_put, Tr.get_put]
    by_cases h : u = t
    · subst h
      exact .inl ⟨a, by simp, by simp, by simp⟩
    · rw [if_neg h, if_neg h]
      rcases substTm_get (φ := φ) (τ := τ) (n := n) l t with ⟨b, h1, h2, h3⟩ | ⟨h1, h2, h3⟩
      · exact .inl ⟨b, by simp [h1], h2, h3⟩
      · refine .inr ⟨fun b hb => ?_, h2, h3⟩
        simp only [List.mem_cons, Prod.mk.injEq] at hb
        rcases hb with ⟨e, _⟩ | hb
        · exact h e.symm
        · exact h1 b hb
theorem substOb_get {φ : Nat → Nat} {τ : List SX} (t : Tr AObj) : ∀ (l : List (Nat × Blk)) (i : Nat), (∃ b, (i, b) ∈ l ∧ (putOb .nil l).get i = some b.obj ∧ (putOb t (substOb φ τ l)).get i = some (b.all (substAV φ τ)).obj) ∨ (namesB l i = false ∧ (putOb t (substOb φ τ l)).get i = t.get i)
  | [], i => .inr ⟨rfl, rfl⟩
  | (j, b) :: l, i => by
    rw [putOb, substOb, putOb, Tr.get_put, Tr.get_put]
    by_cases h : j = i
    · subst h
      exact .inl ⟨b, by simp, by simp, by simp⟩
    · rw [if_neg h, if_neg h]
      rcases substOb_get (φ := φ) (τ := τ) t l i with ⟨c, h1, h2, h3⟩ | ⟨h1, h2⟩
      · exact .inl ⟨c, by simp [h1], h2, h3⟩
      · refine .inr ⟨?_, h2⟩
        rw [namesB, h1, nbeq]
        simp [h]
theorem substOw_get {τ : List SX} (t : Tr AObj) : ∀ (l : List Own) (b i : Nat), (∃ k o, l[k]? = some o ∧ i = b + k ∧ (putOw t (substOw τ l b)).get i = some (.grow o.el o.ts (subst τ o.e))) ∨ ((i < b ∨ b + l.length ≤ i) ∧ (putOw t (substOw τ l b)).get i = t.get i)
  | [], b, i => .inr ⟨by simp; omega, rfl⟩
  | o :: l, b, i => by
    rw [substOw, putOw, Tr.get_put]
    by_cases h : b = i
    · subst h
      exact .inl ⟨0, o, rfl, rfl, by simp⟩
    · rw [if_neg h]
      rcases substOw_get (τ := τ) t l (Nat.succ b) i with ⟨k, p, h1, h2, h3⟩ | ⟨h1, h2⟩
      · exact .inl ⟨k + 1, p, by simpa using h1, by rw [h2]; show b + 1 + k = _; omega, h3⟩
      · refine .inr ⟨?_, h2⟩
        simp only [List.length_cons]
        have : Nat.succ b = b + 1 := rfl
        omega
theorem cutAll_get (t : Tr AObj) : ∀ (l : List Nat) (i : Nat) (o : AObj), (cutAll t l).get i = some o → i ∉ l ∧ t.get i = some o
  | [], i, o, h => ⟨by simp, h⟩
  | j :: js, i, o, h => by
    rw [cutAll, Tr.get_cut] at h
    by_cases e : j = i
    · simp [e] at h
    · rw [if_neg e] at h
      obtain ⟨h1, h2⟩ := cutAll_get t js i o h
      exact ⟨by simp [Ne.symm e, h1], h2⟩

/-- What is kept of an environment from a loop's head to its end. -/
structure Env.lle (nm : Nat → Bool) (m m' : Env) : Prop where
  dom : ∀ id, nm id = true → m.dom id → m'.dom id ∧ m'.mu id = m.mu id
  E : ∀ b o, m.E b = some o → m'.E b = some o
  F : ∀ b o, m.F b = some o → m'.F b = some o
  io : m'.io = m.io
theorem Env.lle.of_le {nm : Nat → Bool} {m m' : Env} (h : m.le m') : m.lle nm m' := ⟨fun id _ hd => ⟨h.dom id hd, h.mu id hd⟩, h.E, h.F, h.io⟩
theorem Env.lle.trans {nm : Nat → Bool} {a b c : Env} (h : a.lle nm b) (k : b.lle nm c) : a.lle nm c :=
  ⟨fun id hn hd => let ⟨x, y⟩ := h.dom id hn hd; let ⟨z, u⟩ := k.dom id hn x; ⟨z, u.trans y⟩, fun x o hx => k.E x o (h.E x o hx), fun x o hx => k.F x o (h.F x o hx), k.io.trans h.io⟩

section
variable [O : Orc] {G : Nat → Option (List AV)} {m : Env} {s : St} {a : Act} {w : World} {T Y : Tmpl} {τ σ : List SX} {ω : List Nat}

/-- The environment outside, behind a loop. -/
def Env.outerE (m m' : Env) (Y : Tmpl) (lim : Nat) : Env :=
  { m with
    E := m'.E
    mu := fun i => (match (if lim ≤ i then Y.ow[i - lim]? else none) with
      | some o => m'.mu o.id
      | none => m.mu i)
    dom := fun i => m.dom i ∨ (lim ≤ i ∧ i < lim + Y.ow.length) }

theorem outer_mu_old {m m' : Env} {lim i : Nat} (h : i < lim) : (m.outerE m' Y lim).mu i = m.mu i := by
  simp only [Env.outerE]
  rw [if_neg (by omega)]
theorem outer_mu_new {m m' : Env} {lim k : Nat} {o : Own} (h : Y.ow[k]? = some o) : (m.outerE m' Y lim).mu (lim + k) = m'.mu o.id := by
  simp only [Env.outerE]
  rw [if_pos (by omega), Nat.add_sub_cancel_left, h]

/-- OUT OF A TEMPLATE. -/
theorem RS.outof {l2 : SX → Option Bool} {I2 : Nat → List DV → DV} {m' : Env} {a' : Act} {w' : World} (hr : @RS O plainR m G s a w) (hm : Matched T ω τ s) (hok : Y.ok T s.n = true)
    (hle : (m.inner (m.R.sub τ) T ω w).lle (namesB T.ob) m') (hr' : @RS (.mk l2 I2) plainR m' G (Y.st s.n) a' w') (hR : m'.R = m.R.sub σ) :
    m.le (m.outerE m' Y s.h.lim) ∧ @RS O plainR (m.outerE m' Y s.h.lim) G (Y.outer ω σ s) a' w' := by
  simp only [Tmpl.ok, Bool.and_eq_true] at hok
  obtain ⟨⟨⟨ok1, ok2⟩, ok3⟩, ok4⟩ := hok
  obtain ⟨z1, z2, z3, _, z4, _⟩ := hr'
  have hdlt : ∀ i, m.dom i → i < s.h.lim := fun i hd => (hr.h.next i hd).2
  have hml : m.le (m.outerE m' Y s.h.lim) := ⟨⟨fun _ h => .inl h, fun i hd => outer_mu_old (hdlt i hd), fun b o e => hle.E b o e, rfl, rfl⟩, fun _ _ h => h, fun _ h => h⟩
  refine ⟨hml, ?_⟩
  -- names that both know
  have nameT : ∀ id, namesB T.ob id = true → m.dom id ∧ m'.dom id ∧ m'.mu id = m.mu id ∧ (m.outerE m' Y s.h.lim).mu id = m.mu id := by
    intro id hid
    obtain ⟨_, c, _, k1, _⟩ := matched_blk hm hid
    have hd := (hr.h.objL id _ k1).1
    obtain ⟨h1, h2⟩ := hle.dom id hid (.inl hid)
    refine ⟨hd, h1, ?_, outer_mu_old (hdlt id hd)⟩
    rw [h2]
    simp only [Env.inner, blk_noown hm hid]
  have hout : m'.outs (namesB T.ob) (namesO Y.ow) (frF Y.ow s.h.lim) σ (m.outerE m' Y s.h.lim) := by
    refine ⟨fun id hid _ => ?_, fun i hi hd => ?_, fun _ _ h => h, hR⟩
    · obtain ⟨h1, _, h3, h4⟩ := nameT id hid
      exact ⟨.inl h1, h4.trans h3.symm⟩
    · obtain ⟨o, ho, rfl⟩ := namesO_iff.1 hi
      obtain ⟨k, hk⟩ := List.mem_iff_getElem?.1 ho
      rw [frF_get ok4 hk]
      have := (List.getElem?_eq_some_iff.1 hk).1
      exact ⟨.inr ⟨by omega, by omega⟩, outer_mu_new hk⟩
  -- what was laid by stays
  have hF : ∀ b x, m.F b = some x → m'.F b = some x := by
    intro b x hb
    refine hle.F b x ?_
    simp only [Env.inner]
    rw [if_pos, hr.h.F b x hb]
    refine ⟨hr.h.EF b x hb, ?_, ?_⟩
    · rintro ⟨id, hid, rfl⟩
      obtain ⟨_, c, _, k1, hmo⟩ := matched_blk hm hid
      have := (hr.h.obj id _ k1 (matchObj_live hmo _)).2.1.2
      rw [this] at hb
      cases hb
    · rintro ⟨i, j, hj, hc, rfl⟩
      obtain ⟨o, _, _, e, h3, _⟩ := owF_grow hm.ow hj
      have := ((hr.h.objL j _ h3).2.1 hc).2
      rw [this] at hb
      cases hb
  have other : ∀ id o, s.h.t.get id = some o → namesB T.ob id = false → id ∉ ω → live o (m.mu id) → ∃ x, m'.F (m.mu id).1 = some x ∧ w.heap[(m.mu id).1]? = some x := by
    intro id o ho h1 h2 hl
    obtain ⟨g1, g2, g3⟩ := hr.h.objL id o ho
    have hlt := g3.lt hl
    refine ⟨w.heap[(m.mu id).1], hle.F _ _ ?_, by simp [hlt]⟩
    simp only [Env.inner]
    rw [if_pos]
    · simp [hlt]
    refine ⟨(g2 hl).1, ?_, ?_⟩
    · rintro ⟨i, hi, e⟩
      obtain ⟨_, c, _, k1, hmo⟩ := matched_blk hm hi
      have := hr.h.injL i id _ _ k1 ho (matchObj_live hmo _) hl e
      subst this
      rw [hi] at h1
      cases h1
    · rintro ⟨i, j, hj, hc, e⟩
      obtain ⟨p, _, _, e', h3, _⟩ := owF_grow hm.ow hj
      have := hr.h.injL j id _ _ h3 ho hc hl e
      subst this
      exact h2 (owF_mem hj).1
  -- what stands in the heap behind
  have cases3 : ∀ id o, (Y.outer ω σ s).h.t.get id = some o →
      (∃ k p, Y.ow[k]? = some p ∧ id = s.h.lim + k ∧ o = .grow p.el p.ts (subst σ p.e) ∧ (Y.st s.n).h.t.get p.id = some (.grow p.el p.ts p.e)) ∨
      (∃ b : Blk, namesB T.ob id = true ∧ o = (b.all (substAV (frF Y.ow s.h.lim) σ)).obj ∧ (Y.st s.n).h.t.get id = some b.obj ∧ okAV.okAVs (namesB T.ob) (namesO Y.ow) (b.cellsFrom 0 b.n) = true) ∨
      (s.h.t.get id = some o ∧ namesB T.ob id = false ∧ id ∉ ω) := by
    intro id o ho
    have ho' : (putOw (putOb (cutAll s.h.t ω) (substOb (frF Y.ow s.h.lim) σ Y.ob)) (substOw σ Y.ow s.h.lim)).get id = some o := ho
    rcases substOw_get (τ := σ) (putOb (cutAll s.h.t ω) (substOb (frF Y.ow s.h.lim) σ Y.ob)) Y.ow s.h.lim id with ⟨k, p, h1, h2, h3⟩ | ⟨h1, h2⟩
    · rw [h3] at ho'
      cases ho'
      refine .inl ⟨k, p, h1, h2, rfl, ?_⟩
      have hp : p ∈ Y.ow := List.mem_iff_getElem?.2 ⟨k, h1⟩
      rcases tmpl_get Y p.id with ⟨q, q1, q2, q3⟩ | ⟨q0, _⟩ | ⟨q0, _⟩
      · obtain ⟨k', hk'⟩ := List.mem_iff_getElem?.1 q1
        have := owId_inj ok4 hk' h1 q2
        subst this
        rw [h1] at hk'
        cases hk'
        exact q3
      · rw [namesO_iff.2 ⟨p, hp, rfl⟩] at q0; cases q0
      · rw [namesO_iff.2 ⟨p, hp, rfl⟩] at q0; cases q0
    · rw [h2] at ho'
      rcases substOb_get (φ := frF Y.ow s.h.lim) (τ := σ) (cutAll s.h.t ω) Y.ob id with ⟨b, h3, h4, h5⟩ | ⟨h3, h4⟩
      · rw [h5] at ho'
        cases ho'
        obtain ⟨k1, k2⟩ := okOb_get ok2 h3
        refine .inr (.inl ⟨b, k1, rfl, ?_, k2⟩)
        show (putOw (putOb .nil Y.ob) Y.ow).get id = _
        rcases putOw_get (putOb .nil Y.ob) Y.ow id with ⟨p, q1, q2, _⟩ | ⟨_, q2⟩
        · have := okOw_get ok4 q1
          rw [q2, k1] at this
          cases this
        · rw [q2, h4]
      · rw [h4] at ho'
        obtain ⟨k1, k2⟩ := cutAll_get _ _ _ _ ho'
        refine .inr (.inr ⟨k2, ?_, k1⟩)
        cases hn : namesB T.ob id with
        | false => rfl
        | true =>
          obtain ⟨b, hb⟩ := namesB_iff.1 hn
          rw [covers_get ok3 hb] at h3
          cases h3
  have oldlt : ∀ id o, s.h.t.get id = some o → id < s.h.lim := fun id o ho => hdlt id (hr.h.objL id o ho).1
  have nodomF : ∀ b x, m.F b = some x → m'.F b ≠ none := fun b x hb e => by rw [hF b x hb] at e; cases e
  refine ⟨z1, fun t => ?_, z3, fun _ => rfl, ?_, hr.g.mono hml⟩
  · have := z2 t
    show V _ (((mkTm s.n (substTm (frF Y.ow s.h.lim) σ Y.tm)).get t).getD (.sc undef)) _
    have h0 : V m' (((mkTm s.n Y.tm).get t).getD (.sc undef)) (a'.tmps.getD t undef) := this
    rcases substTm_get (φ := frF Y.ow s.h.lim) (τ := σ) (n := s.n) Y.tm t with ⟨x, h1, h2, h3⟩ | ⟨_, h2, h3⟩
    · rw [h2, Option.getD_some] at h0
      rw [h3, Option.getD_some]
      exact subst_sound hout x _ (okTm_get ok1 h1).2 h0
    · rw [h2] at h0
      rw [h3]
      split
      · simp [V]
      · rename_i hlt
        rw [if_neg hlt] at h0
        simpa [V] using h0
  · have hlim := hr.h.lim
    refine ⟨fun id hd => ?_, Nat.lt_succ_self _, fun id hd => ?_, fun b x hb => z4.EF b x (hF b x hb), fun b o hb => z4.E b o hb, fun b o hb => z4.F b o (hF b o hb), fun id o ho => ?_, fun i j x y hi hj li lj e => ?_, z4.io.trans hle.io⟩
    · show id ≠ s.h.lim + Y.ow.length ∧ id < s.h.lim + Y.ow.length + 1
      rcases hd with hd | ⟨h1, h2⟩
      · have := hdlt id hd
        omega
      · omega
    · obtain ⟨h1, h2, h3⟩ := hr.h.res id hd
      refine ⟨?_, ?_⟩
      · rintro (h4 | ⟨h4, h5⟩)
        · exact h1 h4
        · omega
      · show id ≠ s.h.lim + Y.ow.length ∧ id < s.h.lim + Y.ow.length + 1
        omega
    · rcases cases3 id o ho with ⟨k, p, h1, rfl, rfl, h4⟩ | ⟨b, h1, rfl, h3, h4⟩ | ⟨h1, h2, h3⟩
      · obtain ⟨g3, g4, g5⟩ := z4.objL p.id _ h4
        have hlt := (List.getElem?_eq_some_iff.1 h1).1
        rw [outer_mu_new h1]
        refine ⟨.inr ⟨by omega, by omega⟩, fun hl => ⟨(g4 hl).1, ?_⟩, ?_⟩
        · cases hx : m.F (m'.mu p.id).1 with
          | none => exact hx
          | some x => exact absurd (g4 hl).2 (nodomF _ _ hx)
        · rcases g5 with g5 | ⟨l, e1, e2, e3, e4, c, b1, b2, b3, b4⟩ | g5
          · exact .inl g5
          · have hden : den m.R (subst σ p.e) = .list l := by rw [den_subst, ← hR]; exact e1
            refine .inr (.inl ⟨l, hden, e2, e3, e4, c, b1, b2, fun k' hk => ?_, b4⟩)
            obtain ⟨u, u1, u2⟩ := b3 k' hk
            refine ⟨u, u1, ?_⟩
            rw [growB_cell e4 (show k' < l.length * p.ts.length from hk)] at u2 ⊢
            simp only [V, den] at u2 ⊢
            rw [e1] at u2
            rw [show den (m.outerE m' Y s.h.lim).R (subst σ p.e) = .list l from hden]
            exact Rep.emono (m := m') (m' := m.outerE m' Y s.h.lim) (fun _ _ h => h) u2
          · exact .inr (.inr (g5.move (by show den m.R (subst σ p.e) = _; rw [den_subst, ← hR]) rfl))
      · obtain ⟨n1, n2, n3, n4⟩ := nameT id h1
        obtain ⟨g3, g4, g5⟩ := z4.obj id _ h3 (b.live_obj _)
        rw [n3] at g4 g5
        rw [n4]
        refine ⟨.inl n1, fun _ => ⟨g4.1, ?_⟩, OR.obj_map g5 rfl rfl rfl rfl rfl fun i v hi hv => ?_⟩
        · cases hx : m.F (m.mu id).1 with
          | none => exact hx
          | some x => exact absurd g4.2 (nodomF _ _ hx)
        · have hget : (b.cellsFrom 0 b.n)[i]? = some (b.cell i) := by rw [getElem?_cellsFrom b b.n 0 i hi, Nat.zero_add]
          rw [all_cell b _ hi]
          exact subst_sound hout _ v (okAVs_get h4 hget) hv
      · obtain ⟨g1, g2, g3⟩ := hr.h.objL id o h1
        rw [outer_mu_old (oldlt id o h1)]
        refine ⟨.inl g1, fun hl => ?_, g3.wmove hml.towle fun hl => ?_⟩
        · obtain ⟨x, e1, e2⟩ := other id o h1 h2 h3 hl
          exact ⟨z4.EF _ _ e1, (g2 hl).2⟩
        · obtain ⟨x, e1, e2⟩ := other id o h1 h2 h3 hl
          rw [z4.F _ _ e1, e2]
    · -- each block stands once
      have cls : ∀ i x, (Y.outer ω σ s).h.t.get i = some x → live x ((m.outerE m' Y s.h.lim).mu i) →
          (∃ i' x', (Y.st s.n).h.t.get i' = some x' ∧ live x' (m'.mu i') ∧ (m.outerE m' Y s.h.lim).mu i = m'.mu i' ∧ ((∃ k p, Y.ow[k]? = some p ∧ i = s.h.lim + k ∧ i' = p.id) ∨ (i = i' ∧ namesB T.ob i = true))) ∨
          (s.h.t.get i = some x ∧ live x (m.mu i) ∧ (m.outerE m' Y s.h.lim).mu i = m.mu i ∧ ∃ y, m'.F (m.mu i).1 = some y) := by
        intro i x hx lx
        rcases cases3 i x hx with ⟨k, p, h1, rfl, rfl, h4⟩ | ⟨b, h1, rfl, h3, h4⟩ | ⟨h1, h2, h3⟩
        · rw [outer_mu_new h1] at lx
          exact .inl ⟨p.id, _, h4, lx, outer_mu_new h1, .inl ⟨k, p, h1, rfl, rfl⟩⟩
        · obtain ⟨n1, n2, n3, n4⟩ := nameT i h1
          exact .inl ⟨i, _, h3, b.live_obj _, n4.trans n3.symm, .inr ⟨rfl, h1⟩⟩
        · have hmu := outer_mu_old (Y := Y) (m := m) (m' := m') (oldlt i x h1)
          rw [hmu] at lx
          obtain ⟨y, e1, _⟩ := other i x h1 h2 h3 lx
          exact .inr ⟨h1, lx, hmu, y, e1⟩
      rcases cls i x hi li with ⟨i', x', a1, a2, a3, a4⟩ | ⟨a1, a2, a3, y1, a4⟩ <;> rcases cls j y hj lj with ⟨j', y', b1, b2, b3, b4⟩ | ⟨b1, b2, b3, y2, b4⟩
      · rw [a3, b3] at e
        have hij := z4.injL i' j' x' y' a1 b1 a2 b2 e
        rcases a4 with ⟨k, p, h1, rfl, rfl⟩ | ⟨rfl, h1⟩ <;> rcases b4 with ⟨k', p', h2, rfl, rfl⟩ | ⟨rfl, h2⟩
        · have := owId_inj ok4 h1 h2 hij
          rw [this]
        · have := okOw_get ok4 (List.mem_iff_getElem?.2 ⟨k, h1⟩)
          rw [hij, h2] at this
          cases this
        · have := okOw_get ok4 (List.mem_iff_getElem?.2 ⟨k', h2⟩)
          rw [← hij, h1] at this
          cases this
        · exact hij
      · rw [a3, b3] at e
        have := ((z4.objL i' x' a1).2.1 a2).2
        rw [e, b4] at this
        cases this
      · rw [a3, b3] at e
        have := ((z4.objL j' y' b1).2.1 b2).2
        rw [← e, a4] at this
        cases this
      · rw [a3, b3] at e
        exact hr.h.injL i j x y a1 b1 a2 b2 e
end
end Go.AM
namespace Go.AM
open Go

/-! ## Loops that are taken by a contract -/
/-- A place's slice, as one that grows: its name, its content, the state. -/
noncomputable def ownAt (s : St) : OSrc → Option (Nat × SX × St)
  | .tm t el ts => match toOwn el ts (tmV s.tm t) s.h with
    | some (j, E, h) => some (j, E, { s with tm := s.tm.put t (.own j ts E), h })
    | none => none
  | .cell id k el ts => match s.h.blk? id with
    | some b => match Nat.blt k b.n with
      | true => match toOwn el ts (b.cell k) s.h with
        | some (j, E, h) => match h.blk? id with
          | some c => some (j, E, { s with h := h.put id (.blk { c with c := c.c.put k (.own j ts E) }) })
          | none => none
        | none => none
      | false => none
    | none => none
  | .mp t => match tmV s.tm t with
    | .hnd 2 j => match s.h.t.get j with
      | some (.grow _ _ E) => some (j, E, s)
      | _ => none
    | _ => none
noncomputable def ownsAt (s : St) : List OSrc → Option (List Nat × List SX × St)
  | [] => some ([], [], s)
  | o :: l => match ownAt s o with
    | some (j, E, s1) => match ownsAt s1 l with
      | some (js, Es, s2) => some (j :: js, E :: Es, s2)
      | none => none
    | none => none
noncomputable def tauOf (Es : List SX) (s : St) : List Src → Option (List SX)
  | [] => some []
  | .tm t ty :: l => match asTy ty (tmV s.tm t), tauOf Es s l with
    | some e, some es => some (e :: es)
    | _, _ => none
  | .cell id k ty :: l => match s.h.t.get id with
    | some (.blk b) => match asTy ty (b.cell k), tauOf Es s l with
      | some e, some es => some (e :: es)
      | _, _ => none
    | some (.loop _ _ tm _ _ _ _) => match asTy ty (tmV tm k), tauOf Es s l with
      | some e, some es => some (e :: es)
      | _, _ => none
    | _ => none
  | .row id k ty :: l => match s.h.blk? id with
    | some b => match asTy ty (b.cell k), tauOf Es s l with
      | some (.at e _ _), some es => some (e :: es)
      | _, _ => none
    | none => none
  | .own k :: l => match Es[k]?, tauOf Es s l with
    | some e, some es => some (e :: es)
    | _, _ => none
  | .part t k ty :: l => match aggOf (tmV s.tm t) with
    | some cs => match cs[k]? with
      | some a => match asTy ty a, tauOf Es s l with
        | some e, some es => some (e :: es)
        | _, _ => none
      | none => none
    | none => none
/-- A place's slice, as data from here on. -/
noncomputable def iceAt (s : St) (o : OSrc) : Option St :=
  match ownAt s o with
  | none => some s
  | some (_, _, s1) => match o with
    | .tm t _ _ => match iceX s1.h (tmV s1.tm t) with
      | some (x, h) => some { s1 with tm := s1.tm.put t x, h }
      | none => none
    | .cell id k _ _ => match iceC s1.h id k with
      | some h => some { s1 with h }
      | none => none
    | .mp _ => some s1
noncomputable def icesAt (s : St) : List OSrc → Option St
  | [] => some s
  | o :: l => match iceAt s o with
    | some s1 => icesAt s1 l
    | none => none
/-- What a template wants of a state: names of slices that grow, what variables stand for, the state. -/
noncomputable def headOf (T : Tmpl) (s : St) : Option (List Nat × List SX × St) :=
  match icesAt s T.isrc with
  | some s0 => match ownsAt s0 T.osrc with
    | some (ω, Es, s1) => match tauOf Es s1 T.src with
      | some τ => some (ω, τ, s1)
      | none => none
    | none => none
  | none => none

structure LoopSp where
  n : Nat
  T : Tmpl
  pre : List (SX × Bool) := []
  cnd : SX := .kb true
  yes : Ex × Tmpl × List SX
  no : Ex × Tmpl × List SX := yes
noncomputable def LoopSp.pick (L : LoopSp) : Bool → Ex × Tmpl × List SX
  | true => L.yes
  | false => L.no

noncomputable def allKnown [O : Orc] (τ : List SX) : List (SX × Bool) → Bool
  | [] => true
  | (e, b) :: l => (match look (subst τ e) with
    | some c => b == c
    | none => false) && allKnown τ l

noncomputable def runLoop [O : Orc] (L : LoopSp) (s : St) : Run :=
  match headOf L.T s with
  | none => none
  | some (ω, τ, s1) => match Nat.beq s1.n L.n && matchSt L.T ω τ s1 && allKnown τ L.pre with
    | false => none
    | true => match look (subst τ L.cnd) with
      | none => none
      | some b => match Tmpl.ok (L.pick b).2.1 L.T s1.n with
        | false => none
        | true => some ((L.pick b).1, (L.pick b).2.1.outer ω ((L.pick b).2.2.map (subst τ)) s1)

/-- WHAT A LOOP DOES, seen from a template. -/
def LoopOK (P : Program) (G : Nat → Option (List AV)) (I : Nat → List DV → DV) (body : Code) (L : LoopSp) : Prop :=
  ∀ (m : Env) (a : Act) (w : World) (Q : Exit → Act → World → Prop), (∀ id, m.dom id → namesB L.T.ob id = true ∨ namesO L.T.ow id = true) → (∀ id, ¬ m.res id) → @RS (noFacts I) plainR m G (L.T.st L.n) a w →
    (∀ p ∈ L.pre, den m.R p.1 = .bool p.2) → ∀ b, den m.R L.cnd = .bool b →
    (∀ m' a' w', m.lle (namesB L.T.ob) m' → m'.R = m.R.sub (L.pick b).2.2 → @RS (noFacts I) plainR m' G ((L.pick b).2.1.st L.n) a' w' → Q (exOf (L.pick b).1) a' w') → (Code.loop body).wp P Q a w

theorem sub_sub (R : Rho) (τ l : List SX) : (R.sub τ).sub l = R.sub (l.map (subst τ)) := by
  unfold Rho.sub
  rw [List.map_map]
  congr 1
  refine List.map_congr_left fun e _ => ?_
  exact (den_subst R τ e).symm

theorem allKnown_sound [O : Orc] {R : Rho} (hF : FactsOK R) {τ : List SX} : ∀ {l : List (SX × Bool)}, allKnown τ l = true → ∀ p ∈ l, den (R.sub τ) p.1 = .bool p.2
  | (e, b) :: l, h, p, hp => by
    simp only [allKnown, Bool.and_eq_true] at h
    simp only [List.mem_cons] at hp
    rcases hp with rfl | hp
    · have h1 := h.1
      split at h1
      · rename_i c hc
        rw [← den_subst, look_den hF hc]
        rw [eq_of_beq h1]
      · cases h1
    · exact allKnown_sound hF h.2 p hp
  | [], _, p, hp => by simp at hp

section
variable [O : Orc] {G : Nat → Option (List AV)}

theorem put_cell (b : Blk) (k : Nat) (v : AV) (i : Nat) : ({ b with c := b.c.put k v } : Blk).cell i = if k = i then v else b.cell i := by
  unfold Blk.cell
  simp only [Tr.get_put]
  by_cases h : k = i
  · simp [h]
  · simp [h]

theorem ownAt_sound {m : Env} {s s' : St} {a : Act} {w : World} {o : OSrc} {j : Nat} {E : SX} (hr : @RS O plainR m G s a w) (h : ownAt s o = some (j, E, s')) :
    ∃ m', m.le m' ∧ @RS O plainR m' G s' a w := by
  unfold ownAt at h
  split at h
  · rename_i t el ts
    split at h <;> (try (cases h; done))
    rename_i j' E' h' ho
    cases h
    obtain ⟨m', h1, h2, h3, _, _⟩ := toOwn_sound hr.h (hr.tm t) ho
    refine ⟨m', h1, @RS.mk O plainR _ _ _ _ _ hr.size (fun u => ?_) (DRo.wmono h1.towle _ _ hr.defers) hr.rnd h3 (hr.g.mono h1)⟩
    show V m' (((s.tm.put t (.own j ts E)).get u).getD (.sc undef)) _
    rw [Tr.get_put]
    by_cases e : t = u
    · subst e; rw [if_pos rfl]; exact h2
    · rw [if_neg e]; exact V.mono h1 _ _ (hr.tm u)
  · rename_i id k el ts
    split at h <;> (try (cases h; done))
    rename_i b hb
    split at h <;> (try (cases h; done))
    rename_i hk
    split at h <;> (try (cases h; done))
    rename_i j' E' h' ho
    split at h <;> (try (cases h; done))
    rename_i c hc
    cases h
    have hk := blt_lt hk
    obtain ⟨_, _, g3⟩ := hr.h.obj id _ (blk?_some hb)
    obtain ⟨cs0, c1, c2, c3, c4⟩ := (show BR m (m.mu id) b w from g3)
    obtain ⟨v, v1, v2⟩ := c3 k hk
    obtain ⟨m', h1, h2, h3, _, h5⟩ := toOwn_sound hr.h v2 ho
    have := h5 id c hc
    rw [hb] at this
    cases this
    obtain ⟨g1, g2, g4⟩ := h3.obj id _ (blk?_some hc)
    obtain ⟨cs, b1, b2, b3, b4⟩ := (show BR m' (m'.mu id) b w from g4)
    have hmu : m'.mu id = m.mu id := h1.mu id (hr.h.objL id _ (blk?_some hb)).1
    have hcs : cs = cs0 := by
      rw [hmu] at b1
      rw [b1] at c1
      simpa using c1
    subst hcs
    refine ⟨m', h1, @RS.mk O plainR _ _ _ _ _ hr.size (fun u => V.mono h1 _ _ (hr.tm u)) (DRo.wmono h1.towle _ _ hr.defers) hr.rnd ?_ (hr.g.mono h1)⟩
    refine h3.put (blk?_some hc) (o' := .blk { b with c := b.c.put k (.own j ts E) }) ⟨cs, b1, b2, fun i hi => ?_, b4⟩ (fun _ _ => rfl)
    rw [put_cell]
    by_cases e : k = i
    · subst e
      exact ⟨v, v1, by rw [if_pos rfl]; exact h2⟩
    · rw [if_neg e]
      exact b3 i hi
  · split at h <;> (try (cases h; done))
    split at h <;> (try (cases h; done))
    cases h
    exact ⟨m, .refl m, hr⟩
theorem ownsAt_sound {a : Act} {w : World} : ∀ {l : List OSrc} {m : Env} {s s' : St} {ω : List Nat} {Es : List SX}, @RS O plainR m G s a w → ownsAt s l = some (ω, Es, s') → ∃ m', m.le m' ∧ @RS O plainR m' G s' a w
  | [], m, s, s', ω, Es, hr, h => by
    simp only [ownsAt, Option.some.injEq, Prod.mk.injEq] at h
    obtain ⟨_, _, rfl⟩ := h
    exact ⟨m, .refl m, hr⟩
  | o :: l, m, s, s', ω, Es, hr, h => by
    simp only [ownsAt] at h
    split at h <;> (try (cases h; done))
    rename_i j E s1 h1
    split at h <;> (try (cases h; done))
    rename_i js Es' s2 h2
    cases h
    obtain ⟨m1, l1, r1⟩ := ownAt_sound hr h1
    obtain ⟨m2, l2, r2⟩ := ownsAt_sound r1 h2
    exact ⟨m2, l1.trans l2, r2⟩
theorem iceAt_sound {m : Env} {s s' : St} {a : Act} {w : World} {o : OSrc} (hr : @RS O plainR m G s a w) (h : iceAt s o = some s') : ∃ m', m.le m' ∧ @RS O plainR m' G s' a w := by
  unfold iceAt at h
  split at h
  · cases h
    exact ⟨m, .refl m, hr⟩
  · rename_i j E s1 ho
    obtain ⟨m1, l1, r1⟩ := ownAt_sound hr ho
    split at h
    · rename_i t el ts
      split at h <;> (try (cases h; done))
      rename_i x h2 hx
      cases h
      obtain ⟨m2, l2, v2, r2⟩ := iceX_sound r1.h (r1.tm t) hx
      refine ⟨m2, l1.trans l2, @RS.mk O plainR _ _ _ _ _ r1.size (fun u => ?_) (DRo.wmono l2.towle _ _ r1.defers) r1.rnd r2 (r1.g.mono l2)⟩
      show V m2 (((s1.tm.put t x).get u).getD (.sc undef)) _
      rw [Tr.get_put]
      by_cases e : t = u
      · subst e; rw [if_pos rfl]; exact v2
      · rw [if_neg e]; exact V.mono l2 _ _ (r1.tm u)
    · rename_i id k el ts
      split at h <;> (try (cases h; done))
      rename_i h2 hx
      cases h
      obtain ⟨m2, l2, r2⟩ := iceC_sound r1.h hx
      exact ⟨m2, l1.trans l2, @RS.mk O plainR _ _ _ _ _ r1.size (fun u => V.mono l2 _ _ (r1.tm u)) (DRo.wmono l2.towle _ _ r1.defers) r1.rnd r2 (r1.g.mono l2)⟩
    · cases h
      exact ⟨m1, l1, r1⟩
theorem icesAt_sound {a : Act} {w : World} : ∀ {l : List OSrc} {m : Env} {s s' : St}, @RS O plainR m G s a w → icesAt s l = some s' → ∃ m', m.le m' ∧ @RS O plainR m' G s' a w
  | [], m, s, s', hr, h => by
    cases h
    exact ⟨m, .refl m, hr⟩
  | o :: l, m, s, s', hr, h => by
    simp only [icesAt] at h
    split at h <;> (try (cases h; done))
    rename_i s1 h1
    obtain ⟨m1, l1, r1⟩ := iceAt_sound hr h1
    obtain ⟨m2, l2, r2⟩ := icesAt_sound r1 h
    exact ⟨m2, l1.trans l2, r2⟩
theorem headOf_sound {m : Env} {a : Act} {w : World} {T : Tmpl} {s s' : St} {ω : List Nat} {τ : List SX} (hr : @RS O plainR m G s a w) (h : headOf T s = some (ω, τ, s')) : ∃ m', m.le m' ∧ @RS O plainR m' G s' a w := by
  unfold headOf at h
  split at h <;> (try (cases h; done))
  rename_i s0 h0
  split at h <;> (try (cases h; done))
  rename_i ω' Es s1 h1
  split at h <;> (try (cases h; done))
  cases h
  obtain ⟨m1, l1, r1⟩ := icesAt_sound hr h0
  obtain ⟨m2, l2, r2⟩ := ownsAt_sound r1 h1
  exact ⟨m2, l1.trans l2, r2⟩

/-- A loop that is taken by a contract. -/
theorem runLoop_sound {P : Program} {body : Code} {L : LoopSp} (hG : PlainG G) (hL : LoopOK P G O.I body L) {m : Env} {s s' : St} {e : Ex} {a : Act} {w : World} {Q : Exit → Act → World → Prop}
    (hr : @RS O plainR m G s a w) (h : runLoop L s = some (e, s')) (hQ : ∀ m' a' w', m.le m' → @RS O plainR m' G s' a' w' → Q (exOf e) a' w') : (Code.loop body).wp P Q a w := by
  unfold runLoop at h
  split at h <;> (try (cases h; done))
  rename_i ω τ s1 hh
  split at h <;> (try (cases h; done))
  rename_i hm
  simp only [Bool.and_eq_true, Nat.beq_eq] at hm
  obtain ⟨⟨hn, hm1⟩, hm2⟩ := hm
  split at h <;> (try (cases h; done))
  rename_i b hb
  split at h <;> (try (cases h; done))
  rename_i hok
  simp only [Option.some.injEq, Prod.mk.injEq] at h
  obtain ⟨rfl, rfl⟩ := h
  obtain ⟨m1, hle1, hr1⟩ := headOf_sound hr hh
  have hmt := matched_of hm1
  have hin := RS.into (O := O) (l2 := fun _ => none) (I2 := O.I) hG hr1 hmt (by rw [← hr1.g.f.1]; exact noFacts_ok (m1.R.sub τ))
  rw [hn] at hin
  refine hL (m1.inner (m1.R.sub τ) L.T ω w) a w Q (fun _ h => h) (fun _ h => h) hin (allKnown_sound hr1.g.f hm2) b ?_ ?_
  · show den (m1.R.sub τ) L.cnd = _
    rw [← den_subst]
    exact look_den hr1.g.f hb
  · intro m' a' w' hle hR hr'
    have hR' : m'.R = m1.R.sub ((L.pick b).2.2.map (subst τ)) := by rw [hR, ← sub_sub]; rfl
    obtain ⟨g1, g2⟩ := RS.outof (O := O) (l2 := fun _ => none) (I2 := O.I) hr1 hmt hok hle (by rw [hn]; exact hr') hR'
    exact hQ _ a' w' (hle1.trans g1) g2
end
end Go.AM
namespace Go.AM
open Go
variable [O : Orc]

/-- The loops of a text, without those inside loops. -/
noncomputable def loopsIn : Code → List Code
  | .seq a b => loopsIn a ++ loopsIn b
  | .cond _ a b => loopsIn a ++ loopsIn b
  | .block _ a => loopsIn a
  | .scope a => loopsIn a
  | .loop a => [a]
  | _ => []

/-- A text's first region. -/
noncomputable def key : Code → Nat
  | .region id _ _ => Nat.succ id
  | .seq a b => match key a with
    | 0 => key b
    | k => k
  | .cond _ a b => match key a with
    | 0 => key b
    | k => k
  | .block _ a => key a
  | .scope a => key a
  | .loop a => key a
  | _ => 0

section
variable {P : Program} {G : Nat → Option (List AV)} {call : CallF}

def LoopIt (P : Program) (G : Nat → Option (List AV)) (iter : Code → St → Run) (body : Code) : Prop :=
  ∀ (m : Env) (s s' : St) (e : Ex) (a : Act) (w : World) (Q : Exit → Act → World → Prop), RS m G s a w → iter body s = some (e, s') → (∀ m' a' w', m.le m' → RS m' G s' a' w' → Q (exOf e) a' w') → (Code.loop body).wp P Q a w

theorem code_soundL (hc : CallRK P G call) (hreg : RegionOK P G call) {iter jump : Code → St → Run} (hj : ∀ (c : Code) (m : Env) (s s' : St) (e : Ex) (a : Act) (w : World) (Q : Exit → Act → World → Prop), RS m G s a w → jump c s = some (e, s') → (∀ m' a' w', m.le m' → RS m' G s' a' w' → Q (exOf e) a' w') → c.wp P Q a w) : ∀ (c : Code) (hit : ∀ body ∈ loopsIn c, LoopIt P G iter body) (m : Env) (s s' : St) (e : Ex) (a : Act) (w : World) (Q : Exit → Act → World → Prop),
    RS m G s a w → codeA P G call iter jump c s = some (e, s') → (∀ m' a' w', m.le m' → RS m' G s' a' w' → Q (exOf e) a' w') → c.wp P Q a w := by
  intro c
  induction c with
  | skip =>
    intro hit m s s' e a w Q hr h hQ
    simp only [codeA, Option.some.injEq, Prod.mk.injEq] at h
    obtain ⟨rfl, rfl⟩ := h
    exact wp_skip (hQ m a w (.refl m) hr)
  | label l =>
    intro hit m s s' e a w Q hr h hQ
    simp only [codeA, Option.some.injEq, Prod.mk.injEq] at h
    obtain ⟨rfl, rfl⟩ := h
    exact wp_label (hQ m a w (.refl m) hr)
  | exit id =>
    intro hit m s s' e a w Q hr h hQ
    simp only [codeA, Option.some.injEq, Prod.mk.injEq] at h
    obtain ⟨rfl, rfl⟩ := h
    exact wp_exit (hQ m a w (.refl m) hr)
  | ret =>
    intro hit m s s' e a w Q hr h hQ
    simp only [codeA, Option.some.injEq, Prod.mk.injEq] at h
    obtain ⟨rfl, rfl⟩ := h
    exact wp_ret (hQ m a w (.refl m) hr)
  | region id ops draw =>
    intro hit m s s' e a w Q hr h hQ
    cases draw with
    | false =>
      simp only [codeA] at h
      split at h
      · rename_i s1 hs
        simp only [Option.some.injEq, Prod.mk.injEq] at h
        obtain ⟨rfl, rfl⟩ := h
        exact wpIn_wide.1 (wpIn_region_list (ops_sound hc ops.toList m s s1 a w hr hs hQ))
      · cases h
    | true =>
      simp only [codeA] at h
      split at h
      · rename_i s1 hs
        simp only [Option.some.injEq, Prod.mk.injEq] at h
        obtain ⟨rfl, rfl⟩ := h
        exact wpIn_wide.1 (hreg id ops m s s1 a w Q hr hs hQ)
      · cases h
  | seq x y ihx ihy =>
    intro hit m s s' e a w Q hr h hQ
    simp only [codeA] at h
    split at h
    · rename_i s1 h1
      have hx := ihx fun B hB => hit B (by simp [loopsIn, hB])
      have hy := ihy fun B hB => hit B (by simp [loopsIn, hB])
      refine wp_seq (hx m s s1 .normal a w _ hr h1 fun m1 a1 w1 g1 r1 => ?_)
      exact hy m1 s1 s' e a1 w1 Q r1 h fun m2 a2 w2 g2 r2 => hQ m2 a2 w2 (g1.trans g2) r2
    · rename_i r hn
      have hx := ihx fun B hB => hit B (by simp [loopsIn, hB])
      refine wp_seq (hx m s s' e a w _ hr h fun m1 a1 w1 g1 r1 => ?_)
      have hq := hQ m1 a1 w1 g1 r1
      cases e with
      | normal => exact absurd h (fun e => hn s' e)
      | exit id => exact hq
      | ret => exact hq
      | goto l => exact hq
  | cond c x y ihx ihy =>
    intro hit m s s' e a w Q hr h hQ
    simp only [codeA] at h
    have hv := resB_sound hr.g.f (hr.ev c)
    split at h
    · rename_i ec
      rw [ec] at hv
      simp only [V] at hv
      exact wp_cond_true hv (ihx (fun B hB => hit B (by simp [loopsIn, hB])) m s s' e a w Q hr h hQ)
    · rename_i ec
      rw [ec] at hv
      simp only [V] at hv
      exact wp_cond_false hv (ihy (fun B hB => hit B (by simp [loopsIn, hB])) m s s' e a w Q hr h hQ)
    · cases h
  | block id x ih =>
    intro hit m s s' e a w Q hr h hQ
    simp only [codeA] at h
    split at h
    · rename_i i s1 h1
      refine wp_block (ih (fun B hB => hit B (by simpa [loopsIn] using hB)) m s s1 (.exit i) a w _ hr h1 fun m1 a1 w1 g1 r1 => ?_)
      split at h
      · rename_i hb
        rw [Nat.beq_eq] at hb
        simp only [Option.some.injEq, Prod.mk.injEq] at h
        obtain ⟨rfl, rfl⟩ := h
        have hq := hQ m1 a1 w1 g1 r1
        simp only [exOf, Exit.inBlock, hb, if_true] at hq ⊢
        exact hq
      · rename_i hb
        have hne : i ≠ id := fun e => by rw [← Nat.beq_eq, hb] at e; cases e
        simp only [Option.some.injEq, Prod.mk.injEq] at h
        obtain ⟨rfl, rfl⟩ := h
        have hq := hQ m1 a1 w1 g1 r1
        simp only [exOf, Exit.inBlock, hne, if_false] at hq ⊢
        exact hq
    · rename_i r hn
      refine wp_block (ih (fun B hB => hit B (by simpa [loopsIn] using hB)) m s s' e a w _ hr h fun m1 a1 w1 g1 r1 => ?_)
      have hq := hQ m1 a1 w1 g1 r1
      cases e with
      | normal => exact hq
      | exit id => exact absurd h (fun e => hn _ s' e)
      | ret => exact hq
      | goto l => exact hq
  | loop x ih =>
    intro hit m s s' e a w Q hr h hQ
    simp only [codeA] at h
    exact hit x (by simp [loopsIn]) m s s' e a w Q hr h hQ
  | scope x ih =>
    intro hit m s s' e a w Q hr h hQ
    have ih := ih fun B hB => hit B (by simpa [loopsIn] using hB)
    simp only [codeA] at h
    split at h
    · rename_i l s1 h1
      refine wpIn_wide.1 (wpIn_scope (n := 0) (wpIn_wide.2 (ih m s s1 (.goto l) a w _ hr h1 fun m1 a1 w1 g1 r1 => ?_)))
      split at h
      · rename_i rest hf
        refine ⟨fun rest' hf' => ?_, fun hf' => by rw [hf] at hf'; cases hf'⟩
        rw [hf] at hf'
        cases hf'
        split at h
        · cases h
        · rename_i r hn
          refine wpIn_wide.2 (hj rest m1 s1 s' e a1 w1 _ r1 h fun m2 a2 w2 g2 r2 => ?_)
          have hq := hQ m2 a2 w2 (g1.trans g2) r2
          cases e with
          | goto l' => exact absurd h (fun e => hn _ _ e)
          | normal => exact hq
          | exit id => exact hq
          | ret => exact hq
      · rename_i hf
        simp only [Option.some.injEq, Prod.mk.injEq] at h
        obtain ⟨rfl, rfl⟩ := h
        exact ⟨fun rest' hf' => (by rw [hf] at hf'; cases hf'), fun _ => hQ m1 a1 w1 g1 r1⟩
    · rename_i r hn
      refine wpIn_wide.1 (wpIn_scope (n := 0) (wpIn_wide.2 (ih m s s' e a w _ hr h fun m1 a1 w1 g1 r1 => ?_)))
      have hq := hQ m1 a1 w1 g1 r1
      cases e with
      | goto l' => exact absurd h (fun e => hn _ _ e)
      | normal => exact hq
      | exit id => exact hq
      | ret => exact hq
  | goto l =>
    intro hit m s s' e a w Q hr h hQ
    simp only [codeA, Option.some.injEq, Prod.mk.injEq] at h
    obtain ⟨rfl, rfl⟩ := h
    exact wpIn_wide.1 (wpIn_goto (n := 0) (hQ m a w (.refl m) hr))
  | rangeFunc g ps asg body _ _ =>
    intro hit m s s' e a w Q hr h hQ
    simp only [codeA] at h
    exact wpIn_wide.1 (range_sound hc hr (hr.ev g) h hQ)
  | _ => intro hit m s s' e a w Q hr h hQ; simp [codeA] at h

end

/-- The first that comes through. -/
noncomputable def firstO {α β : Type} : List α → (α → Option β) → Option β
  | [], _ => none
  | a :: l, f => match f a with
    | some r => some r
    | none => firstO l f
theorem firstO_some {α β : Type} {f : α → Option β} {r : β} : ∀ {l : List α}, firstO l f = some r → ∃ a ∈ l, f a = some r
  | [], h => by simp [firstO] at h
  | a :: l, h => by
    unfold firstO at h
    split at h
    · rename_i r' e
      cases h
      exact ⟨a, List.mem_cons_self .., e⟩
    · obtain ⟨b, h1, h2⟩ := firstO_some h
      exact ⟨b, List.mem_cons_of_mem _ h1, h2⟩
section
variable (P : Program) (G : Nat → Option (List AV)) (spec : FuncId → Option (List AV → AHeap → Out)) (n : Nat)

noncomputable def callsL : CallF := fun f args h => match spec f with
  | some sp => sp args h
  | none => enterR P (runA P G spec n) (codeD P G (runA P G spec n)) f args h
noncomputable def iterL (lps : Nat → List LoopSp) (a : Code) (s : St) : Run := match lps (key a) with
  | [] => runA P G spec n (.loop a) s
  | l => firstO l fun L => runLoop L s
variable (sub : FuncId → List (Nat → List LoopSp))
/-- A call, its loops by contracts where sub has some. -/
noncomputable def callsM : Nat → CallF
  | 0 => callsL P G spec n
  | k + 1 => fun f args h => match spec f with
    | some sp => sp args h
    | none => match sub f with
      | [] => callsL P G spec n f args h
      | l => firstO l fun lps => enterA P (codeA P G (callsM k) (iterL P G spec n lps) (runA P G spec n)) noRun f args h
noncomputable def codeM (lps : Nat → List LoopSp) (c : Code) (s : St) : Run := codeA P G (callsM P G spec n sub 9) (iterL P G spec n lps) (runA P G spec n) c s
noncomputable def callM (lps : Nat → List LoopSp) (f : FuncId) (args : List AV) (h : AHeap) : Out := enterA P (codeM P G spec n sub lps) noRun f args h
end

section
variable {P : Program} {G : Nat → Option (List AV)} {spec : FuncId → Option (List AV → AHeap → Out)} {lps : Nat → List LoopSp}

/-- The loops of a text that have contracts. -/
def LoopsOK (P : Program) (G : Nat → Option (List AV)) (I : Nat → List DV → DV) (lps : Nat → List LoopSp) (c : Code) : Prop := ∀ B ∈ loopsIn c, ∀ L, L ∈ lps (key B) → LoopOK P G I B L

theorem callsL_ok (hm : P.follows .mixedOrders = true) (hN : ∀ (f : FuncId) (fn : Func), P.funcs[f]? = some fn → (fn.name == "runtime.NumGoroutine") = false) (hsp : SpecOK P G spec) (n : Nat) : CallRK P G (callsL P G spec n) := by
  intro f args h av h' hcall
  have hrun : RunOK P G (runA P G spec n) := fun R c m s s' e a w Q hr h hQ => (run_sound hN hsp (fun _ _ h => draw_sound hm h) n R c m s s' e a w Q hr h hQ).1
  unfold callsL at hcall
  cases hf : spec f with
  | none =>
    simp only [hf] at hcall
    unfold enterR at hcall
    split at hcall
    · rename_i hy
      exact .inr ⟨Nat.eq_of_beq_eq_true hy, round_sound hrun h hcall⟩
    · exact .inl (enter_sound hN hrun.zero (codeD_sound hrun.zero) f args h av h' hcall)
  | some sp =>
    simp only [hf] at hcall
    exact .inl (hsp f sp hf f args h av h' (by simp only [if_true]; exact hcall))

theorem codeC_sound {call : CallF} (hm : P.follows .mixedOrders = true) (hN : ∀ (f : FuncId) (fn : Func), P.funcs[f]? = some fn → (fn.name == "runtime.NumGoroutine") = false) (hsp : SpecOK P G spec) (hG : PlainG G) (n : Nat) (hc : CallRK P G call) {c : Code} (hl : LoopsOK P G O.I lps c)
    (m : Env) (s s' : St) (e : Ex) (a : Act) (w : World) (Q : Exit → Act → World → Prop) (hr : RS m G s a w) (h : codeA P G call (iterL P G spec n lps) (runA P G spec n) c s = some (e, s')) (hQ : ∀ m' a' w', m.le m' → RS m' G s' a' w' → Q (exOf e) a' w') : c.wp P Q a w := by
  refine code_soundL hc (draw_sound hm hc) (fun c m s s' e a w Q hr h hQ => wpIn_wide.1 (run_sound hN hsp (fun _ _ h => draw_sound hm h) n plainR c m s s' e a w Q hr h hQ).1) c (fun B hB => ?_) m s s' e a w Q hr h hQ
  intro m s s' e a w Q hr h hQ
  unfold iterL at h
  cases hL : lps (key B) with
  | cons x l =>
    simp only [hL] at h
    obtain ⟨L, hm, h⟩ := firstO_some h
    exact runLoop_sound hG (hl B hB L (by rw [hL]; exact hm)) hr h hQ
  | nil =>
    simp only [hL] at h
    exact wpIn_wide.1 (run_sound hN hsp (fun _ _ h => draw_sound hm h) n plainR (.loop B) m s s' e a w Q hr h hQ).1

open Classical in
theorem enterC_ok {call : CallF} (hm : P.follows .mixedOrders = true) (hN : ∀ (f : FuncId) (fn : Func), P.funcs[f]? = some fn → (fn.name == "runtime.NumGoroutine") = false) (hsp : SpecOK P G spec) (hG : PlainG G) (n : Nat) (hc : CallRK P G call) (f : FuncId)
    (hl : ∀ fn c, P.funcs[f]? = some fn → fn.body = some c → LoopsOK P G O.I lps c) : CallOK P G (fun g args h => if g = f then enterA P (codeA P G call (iterL P G spec n lps) (runA P G spec n)) noRun f args h else none) := by
  intro g args h av h' hcall
  simp only at hcall
  split at hcall
  · rename_i e
    subst e
    let run : Code → St → Run := fun c s => if ∃ fn, P.funcs[g]? = some fn ∧ fn.body = some c then codeA P G call (iterL P G spec n lps) (runA P G spec n) c s else none
    refine enter_sound (run := run) hN ?_ noRun_ok g args h av h' ?_
    · intro c m s s' e a w Q hr h hQ
      by_cases hx : ∃ fn, P.funcs[g]? = some fn ∧ fn.body = some c
      · have h' : codeA P G call (iterL P G spec n lps) (runA P G spec n) c s = some (e, s') := by simpa only [run, if_pos hx] using h
        obtain ⟨fn, h1, h2⟩ := hx
        exact codeC_sound hm hN hsp hG n hc (hl fn c h1 h2) m s s' e a w Q hr h' hQ
      · simp only [run, if_neg hx] at h
        cases h
    · simp only [enterA] at hcall ⊢
      split at hcall
      · cases hcall
      · split at hcall
        · cases hcall
        · rename_i fn hf
          unfold enterB at hcall ⊢
          split at hcall
          · cases hcall
          · rename_i c hb
            have : run c = codeA P G call (iterL P G spec n lps) (runA P G spec n) c := by
              funext s
              simp only [run]
              rw [if_pos ⟨fn, hf, hb⟩]
            simp only [hb, this]
            exact hcall
  · cases hcall

/-- The loops of inner functions have their contracts. -/
def SubOK (P : Program) (G : Nat → Option (List AV)) (I : Nat → List DV → DV) (sub : FuncId → List (Nat → List LoopSp)) : Prop :=
  ∀ f lps, lps ∈ sub f → ∀ fn c, P.funcs[f]? = some fn → fn.body = some c → LoopsOK P G I lps c

theorem callsM_ok (hm : P.follows .mixedOrders = true) (hN : ∀ (f : FuncId) (fn : Func), P.funcs[f]? = some fn → (fn.name == "runtime.NumGoroutine") = false) (hsp : SpecOK P G spec) (hG : PlainG G) (n : Nat) {sub : FuncId → List (Nat → List LoopSp)} (hs : SubOK P G O.I sub) : ∀ k, CallRK P G (callsM P G spec n sub k)
  | 0 => callsL_ok hm hN hsp n
  | k + 1 => by
    have ih := callsM_ok hm hN hsp hG n hs k
    intro f args h av h' hcall
    unfold callsM at hcall
    cases hf : spec f with
    | some sp =>
      simp only [hf] at hcall
      exact .inl (hsp f sp hf f args h av h' (by simp only [if_true]; exact hcall))
    | none =>
      simp only [hf] at hcall
      cases hq : sub f with
      | nil =>
        simp only [hq] at hcall
        exact callsL_ok hm hN hsp n f args h av h' hcall
      | cons x l =>
        simp only [hq] at hcall
        obtain ⟨lps, hmem, hcall⟩ := firstO_some hcall
        exact .inl (enterC_ok hm hN hsp hG n ih f (hs f lps (by rw [hq]; exact hmem)) f args h av h' (by simp only [if_true]; exact hcall))

theorem codeM_sound (hm : P.follows .mixedOrders = true) (hN : ∀ (f : FuncId) (fn : Func), P.funcs[f]? = some fn → (fn.name == "runtime.NumGoroutine") = false) (hsp : SpecOK P G spec) (hG : PlainG G) (n : Nat) {sub : FuncId → List (Nat → List LoopSp)} (hs : SubOK P G O.I sub) {c : Code} (hl : LoopsOK P G O.I lps c)
    (m : Env) (s s' : St) (e : Ex) (a : Act) (w : World) (Q : Exit → Act → World → Prop) (hr : RS m G s a w) (h : codeM P G spec n sub lps c s = some (e, s')) (hQ : ∀ m' a' w', m.le m' → RS m' G s' a' w' → Q (exOf e) a' w') : c.wp P Q a w :=
  codeC_sound hm hN hsp hG n (callsM_ok hm hN hsp hG n hs 9) hl m s s' e a w Q hr h hQ

/-- A CALL OF A FUNCTION WHOSE LOOPS ARE TAKEN BY CONTRACTS. -/
theorem callM_ok (hm : P.follows .mixedOrders = true) (hN : ∀ (f : FuncId) (fn : Func), P.funcs[f]? = some fn → (fn.name == "runtime.NumGoroutine") = false) (hsp : SpecOK P G spec) (hG : PlainG G) (n : Nat) {sub : FuncId → List (Nat → List LoopSp)} (hs : SubOK P G O.I sub) (f : FuncId)
    (hl : ∀ fn c, P.funcs[f]? = some fn → fn.body = some c → LoopsOK P G O.I lps c) : CallOK P G (fun g args h => if g = f then callM P G spec n sub lps f args h else none) :=
  enterC_ok hm hN hsp hG n (callsM_ok hm hN hsp hG n hs 9) f hl
end
end Go.AM
namespace Go.AM
open Go
variable [O : Orc]

/-! ## Calls that leave by a panic, and functions that recover -/
abbrev PCall := FuncId → List AV → AHeap → Option (AV × AHeap)
noncomputable def panicOf (ev : Operand → AV) (o : Oper) : Option AV :=
  match o.op with
  | .panic x => match ev x with
    | .ifc t v => some (.ifc t v)
    | .sc (.iface t v) => some (.sc (.iface t v))
    | _ => none
  | _ => none
section
variable (P : Program) (G : Nat → Option (List AV)) (spec : FuncId → Option (List AV → AHeap → Out)) (n : Nat)
noncomputable def callPan (pc : PCall) (ev : Operand → AV) (s : St) (o : Oper) : Option (AV × St) :=
  match o.op with
  | .call c => match c.callee with
    | .builtin _ => none
    | _ => match targetA ev c with
      | some (f, args) => match pc f args s.h with
        | some (x, h) => some (x, { s with h })
        | none => none
      | none => none
  | _ => none
noncomputable def opsP (pc : PCall) (ops : Array Oper) : List Oper → St → Option (AV × St)
  | [], _ => none
  | o :: rest, s => match wantedA ops (tmV s.tm) o with
    | some true => match stepA P (callsL P G spec n) (St.ev G s.tm) s.h o with
      | some (v, h) => match s.putDst o.dst v h with
        | some s' => opsP pc ops rest s'
        | none => none
      | none => match deferA (St.ev G s.tm) s o with
        | some s' => opsP pc ops rest s'
        | none => match panicOf (St.ev G s.tm) o with
          | some x => some (x, s)
          | none => callPan pc (St.ev G s.tm) s o
    | some false => match s.putDst o.dst (.sc undef) s.h with
      | some s' => opsP pc ops rest s'
      | none => none
    | none => none
noncomputable def codeP (pc : PCall) : Code → St → Option (AV × St)
  | .region _ ops false, s => opsP P G spec n pc ops ops.toList s
  | .seq a b, s => match runA P G spec n a s with
    | some (.normal, s') => codeP pc b s'
    | some _ => none
    | none => codeP pc a s
  | .cond c a b, s => match resB (St.ev G s.tm c) with
    | .sc (.bool true) => codeP pc a s
    | .sc (.bool false) => codeP pc b s
    | _ => none
  | .block _ a, s => codeP pc a s
  | _, _ => none
noncomputable def enterP : Nat → PCall
  | 0, _, _, _ => none
  | k + 1, f, args, h => match Nat.beq f yid with
    | true => none
    | false => match P.funcs[f]? with
    | none => none
    | some fn => match fn.body with
      | none => none
      | some c => match codeP P G spec n (enterP k) c { tm := argsTr 0 args .nil, n := Nat.max args.length fn.ntmps, h } with
        | some (x, s) => match s.df with
          | some [] => some (x, s.h)
          | _ => none
        | none => none
/-- A deferred function whose first recover finds x. -/
noncomputable def opsQ (x : AV) (ops : Array Oper) : List Oper → Bool → St → Option (Bool × St)
  | [], r, s => some (r, s)
  | o :: rest, r, s => match wantedA ops (tmV s.tm) o with
    | some true => match isRec o with
      | true => match s.putDst o.dst (match r with | true => .sc .nilIface | false => x) s.h with
        | some s' => opsQ x ops rest true s'
        | none => none
      | false => match stepA P noCall (St.ev G s.tm) s.h o with
        | some (v, h) => match s.putDst o.dst v h with
          | some s' => opsQ x ops rest r s'
          | none => none
        | none => none
    | some false => match s.putDst o.dst (.sc undef) s.h with
      | some s' => opsQ x ops rest r s'
      | none => none
    | none => none
noncomputable def codeQ (x : AV) : Code → Bool → St → Option (Ex × Bool × St)
  | .seq a b, r, s => match codeQ x a r s with
    | some (.normal, r', s') => codeQ x b r' s'
    | o => o
  | .cond c a b, r, s => match resB (St.ev G s.tm c) with
    | .sc (.bool true) => codeQ x a r s
    | .sc (.bool false) => codeQ x b r s
    | _ => none
  | .region id ops draw, r, s => match draw with
    | false => match opsQ P G x ops ops.toList r s with
      | some (r', s') => some (.normal, r', s')
      | none => none
    | true => match runA P G spec n (.region id ops draw) s with
      | some (e, s') => some (e, r, s')
      | none => none
  | c, r, s => match runA P G spec n c s with
    | some (e, s') => some (e, r, s')
    | none => none
noncomputable def enterQ (f : FuncId) (args : List AV) (x : AV) (h : AHeap) : Option AHeap :=
  match P.funcs[f]? with
  | none => none
  | some fn => match fn.body with
    | none => none
    | some c => match codeQ P G spec n x c false { tm := argsTr 0 args .nil, n := Nat.max args.length fn.ntmps, h } with
      | some (.normal, true, s) | some (.ret, true, s) => match s.df, resultsA P s.tm s.h fn.results.toList with
        | some [], some _ => some s.h
        | _, _ => none
      | _ => none
/-- A call of a function whose body panics, and whose one deferred function recovers. -/
noncomputable def recA (k : Nat) (f : FuncId) (args : List AV) (h : AHeap) : Out :=
  match Nat.beq f yid with
  | true => none
  | false => match P.funcs[f]? with
  | none => none
  | some fn => match fn.body with
    | none => none
    | some c => match codeP P G spec n (enterP P G spec n k) c { tm := argsTr 0 args .nil, n := Nat.max args.length fn.ntmps, h } with
      | some (x, s) => match s.df with
        | some [.fn g as] => match enterQ P G spec n g as x s.h with
          | none => none
          | some h' => match resultsA P s.tm h' fn.results.toList with
            | some [v] => some (v, h')
            | some vs => some (.tup vs, h')
            | none => none
        | _ => none
      | none => none
/-- A call, by the machine; where that stands still, by a panic and a recover. -/
noncomputable def callRec (k : Nat) (f : FuncId) (args : List AV) (h : AHeap) : Out :=
  match callA P G spec n f args h with
  | some r => some r
  | none => recA P G spec n k f args h
end

section
variable {P : Program} {G : Nat → Option (List AV)} {spec : FuncId → Option (List AV → AHeap → Out)} {n : Nat}
def pent (v : Value) : PanicEntry := { v, recovered := false }
def PCallOK (P : Program) (G : Nat → Option (List AV)) (pc : PCall) : Prop :=
  ∀ f args h x h', pc f args h = some (x, h') → HasBody P f ∧ ∀ (m : Env) (vs : Array Value) (w : World), VL m args vs.toList → HR m h w → GOK m G →
    Calls P f vs w fun e w' => ∃ v m', e = .panicked [pent v] ∧ m.le m' ∧ V m' x v ∧ HR m' h' w'

theorem callPan_sound {pc : PCall} (hpc : PCallOK P G pc) {o : Oper} {m : Env} {s s' : St} {x : AV} {a : Act} {w : World} (hr : @RS O plainR m G s a w) (hs : callPan pc (St.ev G s.tm) s o = some (x, s')) {K : Act → World → Prop} {Q : Exit → Act → World → Prop}
    (hQ : ∀ m' w' v, m.le m' → @RS O plainR m' G s' a w' → V m' x v → Q (.panic [pent v]) a w') : o.wpIn (fen none) 0 P a w K Q := by
  letI : Rnd := plainR
  unfold callPan at hs
  split at hs <;> (try (cases hs; done))
  rename_i c hop
  split at hs <;> (try (cases hs; done))
  rename_i hnb
  split at hs <;> (try (cases hs; done))
  rename_i f args ht
  split at hs <;> (try (cases hs; done))
  rename_i x' h' hcall
  cases hs
  have eop : execOp a.eval o = (do let d ← resolve a.eval c o.type; invoke d.target d.args) := by
    unfold execOp
    simp only [hop]
  obtain ⟨hb, hc⟩ := hpc f args s.h x h' hcall
  obtain ⟨vs, h1, h2⟩ := target_run (w := w) (ty := o.type) hr.ev ht hb
  unfold Oper.wpIn
  refine ⟨fun _ _ => trivial, ?_⟩
  have e : (Oper.semAt (fen none).round a.eval o).run P w = .ok (.enter f vs) w := by
    show (Oper.semAt none a.eval o).run P w = _
    rw [Oper.semAt_none, eop, h2]
  rw [e]
  refine ⟨fun h => (by cases h), (callsIn_fen (n := 0)).2 ((hc m vs w h1 hr.h hr.g).mono ?_)⟩
  rintro e w' ⟨v, m', rfl, k1, k2, k3⟩
  exact hQ m' w' v k1 ⟨hr.size, fun t => V.mono k1 _ _ (hr.tm t), DRo.wmono k1.towle _ _ hr.defers, hr.rnd, k3, hr.g.mono k1⟩ k2

theorem panicOf_sound {o : Oper} {m : Env} {s : St} {x : AV} {a : Act} {w : World} (hr : @RS O plainR m G s a w) (hs : panicOf (St.ev G s.tm) o = some x) {K : Act → World → Prop} {Q : Exit → Act → World → Prop}
    (hQ : ∀ v, V m x v → Q (.panic [pent v]) a w) : o.wpIn (fen none) 0 P a w K Q := by
  letI : Rnd := plainR
  unfold panicOf at hs
  split at hs <;> (try (cases hs; done))
  rename_i y hop
  have key : ∃ t u, V m x (a.eval y) ∧ a.eval y = .iface t u := by
    have h0 := hr.ev y
    split at hs <;> (try (cases hs; done))
    · rename_i t v hy
      cases hs
      rw [hy] at h0
      have h1 := h0
      simp only [V] at h1
      obtain ⟨u, hu, _⟩ := h1
      exact ⟨t, u, h0, hu⟩
    · rename_i t v hy
      cases hs
      rw [hy] at h0
      have h1 := h0
      simp only [V] at h1
      exact ⟨t, v, h0, h1⟩
  obtain ⟨t, u, h0, hu⟩ := key
  unfold Oper.wpIn
  refine ⟨fun _ _ => trivial, ?_⟩
  have e : (Oper.semAt (fen none).round a.eval o).run P w = .halt (.panic (a.eval y)) w := by
    show (Oper.semAt none a.eval o).run P w = _
    rw [Oper.semAt_none]
    unfold execOp
    simp only [hop]
    rw [hu]
    rfl
  rw [e]
  exact hQ _ h0

theorem opsP_sound (hcl : CallRK P G (callsL P G spec n)) {pc : PCall} (hpc : PCallOK P G pc) {ops : Array Oper} {Q : Exit → Act → World → Prop} : ∀ (l : List Oper) (m : Env) (s s' : St) (x : AV) (a : Act) (w : World), @RS O plainR m G s a w → opsP P G spec n pc ops l s = some (x, s') →
    (∀ m' a' w' v, m.le m' → @RS O plainR m' G s' a' w' → V m' x v → Q (.panic [pent v]) a' w') → wpListIn (fen none) 0 P ops Q l a w
  | [], m, s, s', x, a, w, hr, hs, hQ => by simp [opsP] at hs
  | o :: rest, m, s, s', x, a, w, hr, hs, hQ => by
    letI : Rnd := plainR
    simp only [opsP] at hs
    split at hs
    · rename_i hw
      simp only [wpListIn, wanted_sound hr.g.f hr.tm hw, if_true]
      split at hs
      · rename_i v h' hstep
        split at hs
        · rename_i s1 hput
          exact step_sound hcl hr.ev hr.h hr.g hstep fun m' x' w' h1 h2 h3 => opsP_sound hcl hpc rest m' s1 s' x _ w' (hr.put hput h1 h2 h3) hs fun m2 a2 w2 v g1 g2 g3 => hQ m2 a2 w2 v (h1.trans g1) g2 g3
        · cases hs
      · split at hs
        · rename_i s1 hd
          exact defer_sound hr hd fun a' h1 => opsP_sound hcl hpc rest m s1 s' x a' w h1 hs hQ
        · split at hs
          · rename_i y hp
            cases hs
            exact panicOf_sound hr hp fun v hv => hQ m a w v (.refl m) hr hv
          · exact callPan_sound hpc hr hs fun m' w' v h1 h2 h3 => hQ m' a w' v h1 h2 h3
    · rename_i hw
      split at hs
      · rename_i s1 hput
        simp only [wpListIn, wanted_sound hr.g.f hr.tm hw, Bool.false_eq_true, if_false]
        exact ⟨fun _ _ => trivial, opsP_sound hcl hpc rest m s1 s' x _ w (hr.put hput (.refl m) (by simp [V]) hr.h) hs hQ⟩
      · cases hs
    · cases hs

variable (hrun : ∀ (c : Code) (m : Env) (s s' : St) (e : Ex) (a : Act) (w : World) (Q : Exit → Act → World → Prop), @RS O plainR m G s a w → runA P G spec n c s = some (e, s') → (∀ m' a' w', m.le m' → @RS O plainR m' G s' a' w' → Q (exOf e) a' w') → c.wp P Q a w)
include hrun
theorem codeP_sound (hcl : CallRK P G (callsL P G spec n)) {pc : PCall} (hpc : PCallOK P G pc) : ∀ (c : Code) (m : Env) (s s' : St) (x : AV) (a : Act) (w : World) (Q : Exit → Act → World → Prop), @RS O plainR m G s a w → codeP P G spec n pc c s = some (x, s') →
    (∀ m' a' w' v, m.le m' → @RS O plainR m' G s' a' w' → V m' x v → Q (.panic [pent v]) a' w') → c.wp P Q a w := by
  intro c
  induction c with
  | region id ops draw =>
    intro m s s' x a w Q hr h hQ
    cases draw with
    | false =>
      simp only [codeP] at h
      exact wpIn_wide.1 (wpIn_region_list (opsP_sound hcl hpc ops.toList m s s' x a w hr h hQ))
    | true => simp [codeP] at h
  | seq b c ihb ihc =>
    intro m s s' x a w Q hr h hQ
    simp only [codeP] at h
    split at h
    · rename_i s1 h1
      refine wp_seq (hrun b m s s1 .normal a w _ hr h1 fun m1 a1 w1 g1 r1 => ?_)
      exact ihc m1 s1 s' x a1 w1 Q r1 h fun m2 a2 w2 v g2 r2 k2 => hQ m2 a2 w2 v (g1.trans g2) r2 k2
    · cases h
    · refine wp_seq (ihb m s s' x a w _ hr h fun m1 a1 w1 v g1 r1 k1 => ?_)
      exact hQ m1 a1 w1 v g1 r1 k1
  | cond c b d ihb ihd =>
    intro m s s' x a w Q hr h hQ
    letI : Rnd := plainR
    simp only [codeP] at h
    have hv := resB_sound hr.g.f (hr.ev c)
    split at h
    · rename_i ec
      rw [ec] at hv
      simp only [V] at hv
      exact wp_cond_true hv (ihb m s s' x a w Q hr h hQ)
    · rename_i ec
      rw [ec] at hv
      simp only [V] at hv
      exact wp_cond_false hv (ihd m s s' x a w Q hr h hQ)
    · cases h
  | block id b ih =>
    intro m s s' x a w Q hr h hQ
    simp only [codeP] at h
    refine wp_block (ih m s s' x a w _ hr h fun m1 a1 w1 v g1 r1 k1 => ?_)
    exact hQ m1 a1 w1 v g1 r1 k1
  | _ => intro m s s' x a w Q hr h hQ; simp [codeP] at h

theorem enterP_sound (hN : ∀ (f : FuncId) (fn : Func), P.funcs[f]? = some fn → (fn.name == "runtime.NumGoroutine") = false) (hcl : CallRK P G (callsL P G spec n)) : ∀ k, PCallOK P G (enterP P G spec n k)
  | 0 => fun f args h x h' hq => by simp [enterP] at hq
  | k + 1 => fun f args h x h' hq => by
    have ih := enterP_sound hN hcl k
    simp only [enterP] at hq
    split at hq
    · cases hq
    rename_i hy
    have hne := Nat.ne_of_beq_eq_false hy
    split at hq
    · cases hq
    rename_i fn hf
    split at hq
    · cases hq
    rename_i c hb
    split at hq
    · rename_i y s hs
      split at hq
      · rename_i hdf
        cases hq
        refine ⟨⟨fn, hf, by rw [hb]; rfl, hN f fn hf, hne⟩, fun m vs w hl hr hg => ?_⟩
        refine callsIn_wide.1 (callsIn_of_wp_marks (n := 0) hf hb trivial (wpIn_wide.2 ?_))
        have hrs := @rs_enter O G ⟨none⟩ m fn args vs h w rfl hl hr hg
        refine codeP_sound hrun hcl ih c m _ s x _ w _ hrs hs fun m' a' w' v hm hr' hv => ?_
        show LeavesInM Fence.wide 0 P fn a'.tmps _ a'.defers (.panicking [pent v]) w'
        have hd := hr'.defers
        rw [hdf] at hd
        have hd : a'.defers = [] := hd
        rw [hd]
        exact ⟨v, m', rfl, hm, hv, hr'.h⟩
      · cases hq
    · cases hq

/-- The frames below a deferred call: one that panics, recovered or not. -/
def framesQ (c₀ : Frame) (cs : List Frame) (u : Value) (r : Bool) : List Frame := { c₀ with mode := .panicking [{ v := u, recovered := r }] } :: cs
omit hrun in
theorem opsQ_sound {ops : Array Oper} {Q : Exit → Act → List Frame → World → Prop} {c₀ : Frame} {cs : List Frame} {u : Value} {x : AV} : ∀ (l : List Oper) (k : Nat), (∀ j, l[j]? = ops[k + j]?) → ∀ (m : Env) (r r' : Bool) (s s' : St) (a : Act) (w : World), @RS O ⟨none⟩ m G s a w → V m x u → opsQ P G x ops l r s = some (r', s') →
    (∀ m' a' w', m.le m' → @RS O ⟨none⟩ m' G s' a' w' → Q .normal a' (framesQ c₀ cs u r') w') → wpOpsSIn Fence.wide 0 P ops Q (List.range' k l.length) a (framesQ c₀ cs u r) w
  | [], k, _, m, r, r', s, s', a, w, hr, hx, hs, hQ => by
    simp only [opsQ, Option.some.injEq, Prod.mk.injEq] at hs
    obtain ⟨rfl, rfl⟩ := hs
    exact hQ m a w (.refl m) hr
  | o :: rest, k, hk, m, r, r', s, s', a, w, hr, hx, hs, hQ => by
    letI : Rnd := ⟨none⟩
    have ho : ops[k]? = some o := by simpa using (hk 0).symm
    have hk' : ∀ j, rest[j]? = ops[k + 1 + j]? := fun j => by
      have := hk (j + 1)
      rw [List.getElem?_cons_succ] at this
      rw [this]
      congr 1
      omega
    simp only [opsQ] at hs
    simp only [List.length_cons, List.range'_succ, wpOpsSIn, ho]
    refine ⟨fun _ _ => trivial, ?_⟩
    split at hs
    · rename_i hw
      have hwt : Region.wanted o (yielded ops a.tmps) = true := wanted_sound hr.g.f hr.tm hw
      rw [if_pos hwt]
      split at hs
      · rename_i hrec
        split at hs
        · rename_i s1 hput
          have e : (execOp a.eval o).run P w = .ok .recover w := by
            unfold isRec at hrec
            split at hrec
            · rename_i c hop
              split at hrec
              · rename_i hcal
                unfold execOp
                simp only [hop, resolve, hcal, invoke, builtin]
                simp
              · cases hrec
            · cases hrec
          rw [e]
          cases r with
          | true =>
            simp only [framesQ, recoverD]
            exact opsQ_sound rest (k + 1) hk' m true r' s1 s' _ w (hr.put hput (.refl m) (by simp [V]) hr.h) hx hs hQ
          | false =>
            simp only [framesQ, recoverD]
            exact opsQ_sound rest (k + 1) hk' m true r' s1 s' _ w (hr.put hput (.refl m) hx hr.h) hx hs hQ
        · cases hs
      · split at hs
        · rename_i v h' hstep
          split at hs
          · rename_i s1 hput
            obtain ⟨y, w', m', hrun, h1, h2, h3⟩ := step_good hr.ev hr.h hr.g hstep
            have go : ∀ y, V m' v y → wpOpsSIn Fence.wide 0 P ops Q (List.range' (k + 1) rest.length) (a.put o.dst y) (framesQ c₀ cs u r) w' := fun y h2 =>
              opsQ_sound rest (k + 1) hk' m' r r' s1 s' _ w' (hr.put hput h1 h2 h3) (V.mono h1 _ _ hx) hs fun m2 a2 w2 g1 g2 => hQ m2 a2 w2 (h1.trans g1) g2
            rcases hrun with e | ⟨e, rfl⟩
            · rw [e]; exact go y h2
            · rw [e]; exact go _ h2
          · cases hs
        · cases hs
    · rename_i hw
      have hwf : ¬ (Region.wanted o (yielded ops a.tmps) = true) := by
        rw [wanted_sound hr.g.f hr.tm hw]
        simp
      rw [if_neg hwf]
      split at hs
      · rename_i s1 hput
        exact opsQ_sound rest (k + 1) hk' m r r' s1 s' _ w (hr.put hput (.refl m) (by simp [V]) hr.h) hx hs hQ
      · cases hs
    · cases hs

theorem codeQ_sound {c₀ : Frame} {cs : List Frame} {u : Value} {x : AV} : ∀ (c : Code) (m : Env) (r r' : Bool) (s s' : St) (e : Ex) (a : Act) (w : World) (Q : Exit → Act → List Frame → World → Prop), @RS O ⟨none⟩ m G s a w → V m x u → codeQ P G spec n x c r s = some (e, r', s') →
    (∀ m' a' w', m.le m' → @RS O ⟨none⟩ m' G s' a' w' → Q (exOf e) a' (framesQ c₀ cs u r') w') → c.wpSIn Fence.wide 0 P Q a (framesQ c₀ cs u r) w := by
  intro c
  have rest : ∀ (c : Code), (∀ r s, codeQ P G spec n x c r s = match runA P G spec n c s with
      | some (e, s') => some (e, r, s')
      | none => none) → ∀ (m : Env) (r r' : Bool) (s s' : St) (e : Ex) (a : Act) (w : World) (Q : Exit → Act → List Frame → World → Prop), @RS O ⟨none⟩ m G s a w → codeQ P G spec n x c r s = some (e, r', s') →
      (∀ m' a' w', m.le m' → @RS O ⟨none⟩ m' G s' a' w' → Q (exOf e) a' (framesQ c₀ cs u r') w') → c.wpSIn Fence.wide 0 P Q a (framesQ c₀ cs u r) w := by
    intro c hc m r r' s s' e a w Q hr h hQ
    rw [hc] at h
    split at h
    · rename_i e1 s1 h1
      simp only [Option.some.injEq, Prod.mk.injEq] at h
      obtain ⟨rfl, rfl, rfl⟩ := h
      exact wpSIn_of_wpIn rfl (wpIn_wide.2 (hrun c m s _ _ a w (fun e a' w' => Q e a' (framesQ c₀ cs u r) w') hr h1 hQ))
    · cases h
  induction c with
  | seq b d ihb ihd =>
    intro m r r' s s' e a w Q hr hx h hQ
    simp only [codeQ] at h
    split at h
    · rename_i r1 s1 h1
      refine wpSIn_seq (ihb m r r1 s s1 .normal a w _ hr hx h1 fun m1 a1 w1 g1 q1 => ?_)
      exact ihd m1 r1 r' s1 s' e a1 w1 Q q1 (V.mono g1 _ _ hx) h fun m2 a2 w2 g2 q2 => hQ m2 a2 w2 (g1.trans g2) q2
    · rename_i o hn
      refine wpSIn_seq (ihb m r r' s s' e a w _ hr hx h fun m1 a1 w1 g1 q1 => ?_)
      have hq := hQ m1 a1 w1 g1 q1
      cases e with
      | normal => exact absurd h (fun e => hn _ _ e)
      | exit id => exact hq
      | ret => exact hq
      | goto l => exact hq
  | cond c b d ihb ihd =>
    intro m r r' s s' e a w Q hr hx h hQ
    letI : Rnd := ⟨none⟩
    simp only [codeQ] at h
    have hv := resB_sound hr.g.f (hr.ev c)
    split at h
    · rename_i ec
      rw [ec] at hv
      simp only [V] at hv
      exact wpSIn_cond (t := true) hv (ihb m r r' s s' e a w Q hr hx h hQ)
    · rename_i ec
      rw [ec] at hv
      simp only [V] at hv
      exact wpSIn_cond (t := false) hv (ihd m r r' s s' e a w Q hr hx h hQ)
    · cases h
  | region id ops draw =>
    intro m r r' s s' e a w Q hr hx h hQ
    cases draw with
    | false =>
      simp only [codeQ] at h
      split at h
      · rename_i r1 s1 hs
        simp only [Option.some.injEq, Prod.mk.injEq] at h
        obtain ⟨rfl, rfl, rfl⟩ := h
        refine wpSIn_region ?_
        have := opsQ_sound (Q := Q) (c₀ := c₀) (cs := cs) ops.toList 0 (by simp) m r r1 s s1 a w hr hx hs hQ
        rw [List.range_eq_range', ← Array.length_toList]
        exact this
      · cases h
    | true => exact rest _ (fun r s => rfl) m r r' s s' e a w Q hr h hQ
  | _ => exact fun m r r' s s' e a w Q hr _ h hQ => rest _ (fun r s => rfl) m r r' s s' e a w Q hr h hQ

theorem enterQ_sound {f : FuncId} {args : List AV} {x : AV} {u : Value} {h h' : AHeap} (hq : enterQ P G spec n f args x h = some h') {m : Env} {vs : Array Value} {w : World} (hl : VL m args vs.toList) (hx : V m x u) (hr : HR m h w) (hg : GOK m G) :
    (∃ fn, P.funcs[f]? = some fn ∧ fn.body.isNone = false) ∧ CallsDIn Fence.wide 0 P f vs (.panicking [pent u]) w fun e u' w' => u' = .panicking [{ v := u, recovered := true }] ∧ ∃ v m', e = .returned v ∧ m.le m' ∧ HR m' h' w' := by
  unfold enterQ at hq
  split at hq
  · cases hq
  rename_i fn hf
  split at hq
  · cases hq
  rename_i c hb
  refine ⟨⟨fn, hf, by rw [hb]; rfl⟩, callsDIn_of_wpSIn hf hb trivial fun c₀ cs hu => ?_⟩
  have hc0 : (c₀ :: cs) = framesQ c₀ cs u false := by
    unfold framesQ
    congr 1
    rw [show ({ v := u, recovered := false } : PanicEntry) = pent u from rfl, ← hu]
  rw [hc0]
  have hrs := @rs_enter O G ⟨none⟩ m fn args vs h w rfl hl hr hg
  have fin : ∀ (s : St) (a' : Act) (w' : World) (m' : Env), m.le m' → @RS O ⟨none⟩ m' G s a' w' → (match s.df, resultsA P s.tm s.h fn.results.toList with
      | some [], some _ => some s.h
      | _, _ => none) = some h' → a'.defers = [] ∧ ∃ u', framesQ c₀ cs u true = { c₀ with mode := u' } :: cs ∧ ∃ v, (results fn a'.tmps).run P w' = .ok v w' ∧ (u' = .panicking [{ v := u, recovered := true }] ∧ ∃ v' m'', Ending.returned v = .returned v' ∧ m.le m'' ∧ HR m'' h' w') := by
    intro s a' w' m' hm hr' he
    obtain ⟨z1, z2, z3, z4, z5, z6⟩ := hr'
    split at he
    · rename_i avs hdf hres
      cases he
      rw [hdf] at z3
      obtain ⟨us, g1, g2⟩ := results_sound (P := P) z2 z5 _ _ hres
      exact ⟨z3, _, rfl, oneOf us, run_results g2, rfl, _, m', rfl, hm, z5⟩
    · cases he
  split at hq
  · rename_i s hs
    exact codeQ_sound hrun c m false true _ s .normal _ w _ hrs hx hs fun m' a' w' hm hr' => fin s a' w' m' hm hr' hq
  · rename_i s hs
    exact codeQ_sound hrun c m false true _ s .ret _ w _ hrs hx hs fun m' a' w' hm hr' => fin s a' w' m' hm hr' hq
  · cases hq

/-- A CALL OF A FUNCTION THAT RECOVERS. -/
theorem recA_ok (hN : ∀ (f : FuncId) (fn : Func), P.funcs[f]? = some fn → (fn.name == "runtime.NumGoroutine") = false) (hcl : CallRK P G (callsL P G spec n)) (k : Nat) : CallOK P G (recA P G spec n k) := by
  intro f args h av h' hq
  unfold recA at hq
  split at hq
  · cases hq
  rename_i hy
  have hne := Nat.ne_of_beq_eq_false hy
  split at hq
  · cases hq
  rename_i fn hf
  split at hq
  · cases hq
  rename_i c hb
  split at hq
  · rename_i x s hs
    split at hq
    · rename_i g as hdf
      split at hq
      · cases hq
      rename_i h1 hen
      refine ⟨⟨fn, hf, by rw [hb]; rfl, hN f fn hf, hne⟩, fun m vs w hl hr hg => ?_⟩
      refine callsIn_wide.1 (callsIn_of_wp_marks (n := 0) hf hb trivial (wpIn_wide.2 ?_))
      have hrs := @rs_enter O G ⟨none⟩ m fn args vs h w rfl hl hr hg
      refine codeP_sound hrun hcl (enterP_sound hrun hN hcl k) c m _ s x _ w _ hrs hs fun m' a' w' v hm hr' hv => ?_
      show LeavesInM Fence.wide 0 P fn a'.tmps _ a'.defers (.panicking [pent v]) w'
      obtain ⟨z1, z2, z3, z4, z5, z6⟩ := hr'
      rw [hdf] at z3
      simp only [DRo, DRs] at z3
      obtain ⟨y, ys, hds, ⟨cap, as', rfl, hvl⟩, hys⟩ := z3
      subst hys
      rw [hds]
      obtain ⟨⟨fn', hf', hbody⟩, hcall⟩ := enterQ_sound hrun hen hvl hv z5 z6
      refine ⟨by simp, .inr ⟨fun h => (by cases h), _, cap, g, as' ++ cap, rfl, ?_, fun _ _ => trivial, hcall.mono ?_⟩⟩
      · show (callFunc g (as' ++ cap)).run P w' = _
        unfold callFunc
        rw [Sem.run_bind]
        simp only [run_program, Result.andThen_ok, hf', hN g fn' hf', hbody, Bool.false_eq_true, if_false]
        rfl
      · rintro e u' w2 ⟨rfl, v2, m2, rfl, hm2, hr2⟩
        show LeavesInM Fence.wide 0 P fn a'.tmps _ [] (settle (.panicking [{ v := v, recovered := true }])) w2
        show LeavesIn Fence.wide 0 P fn a'.tmps _ [] .returning w2
        have z2' : ∀ t, V m2 ((s.tm.get t).getD (.sc undef)) (a'.tmps.getD t undef) := fun t => V.mono hm2 _ _ (z2 t)
        split at hq
        · rename_i v3 hres
          simp only [Option.some.injEq, Prod.mk.injEq] at hq
          obtain ⟨rfl, rfl⟩ := hq
          obtain ⟨us, g1, g2⟩ := results_sound (P := P) z2' hr2 _ _ hres
          simp only [VL] at g1
          obtain ⟨u, us', rfl, hu, rfl⟩ := g1
          exact ⟨u, run_results g2, u, m2, rfl, hm.trans hm2, hu, hr2⟩
        · rename_i avs hne hres
          simp only [Option.some.injEq, Prod.mk.injEq] at hq
          obtain ⟨rfl, rfl⟩ := hq
          obtain ⟨us, g1, g2⟩ := results_sound (P := P) z2' hr2 _ _ hres
          have hne' : ∀ u, us ≠ [u] := by
            intro u e
            have := VL_length g1
            rw [e] at this
            simp at this
            obtain ⟨x, hx⟩ := List.length_eq_one_iff.1 this.symm
            exact hne x (by rw [hx])
          refine ⟨.tuple us.toArray, ?_, _, m2, rfl, hm.trans hm2, by simp only [V]; exact ⟨_, rfl, g1⟩, hr2⟩
          rw [run_results g2]
          cases us with
          | nil => rfl
          | cons u l => cases l with
            | nil => exact absurd rfl (hne' u)
            | cons v l => rfl
        · cases hq
    · cases hq
  · cases hq
end

theorem callRec_ok {P : Program} {G : Nat → Option (List AV)} {spec : FuncId → Option (List AV → AHeap → Out)} (hm : P.follows .mixedOrders = true) (hN : ∀ (f : FuncId) (fn : Func), P.funcs[f]? = some fn → (fn.name == "runtime.NumGoroutine") = false) (hsp : SpecOK P G spec) (n k : Nat) : CallOK P G (callRec P G spec n k) := by
  intro f args h av h' hq
  unfold callRec at hq
  split at hq
  · rename_i r hr
    cases hq
    exact callA_ok hm hN hsp n f args h av h' hr
  · exact recA_ok (fun c m s s' e a w Q hr h hQ => wpIn_wide.1 (run_sound hN hsp (fun _ _ h => draw_sound hm h) n plainR c m s s' e a w Q hr h hQ).1) hN (callsL_ok hm hN hsp n) k f args h av h' hq
end Go.AM
namespace Go.AM
open Go
variable [O : Orc]

/-! ## A panic in a row whose order is open -/
section
variable (P : Program) (G : Nat → Option (List AV)) (call : CallF) (pc : PCall) (ops : Array Oper) (b nt : Nat)
noncomputable def panAt (ev : Operand → AV) (S : AHeap) (o : Oper) : Option (AV × AHeap) :=
  match o.op with
  | .call c => match c.callee with
    | .builtin _ => none
    | _ => match targetA ev c with
      | some (f, args) => pc f args S
      | none => none
  | _ => none
noncomputable def skipA (y : DRow) (s : DS) : Option DS :=
  match putA nt s.tm y.o.dst .dead with
  | none => none
  | some tm => match y.act with
    | true => some { s with tm, got := Nat.lor s.got (bit y.j), past := s.past ++ [(s.h, Nat.lor s.got (bit y.j))] }
    | false => some { s with tm }
noncomputable def panA (y : DRow) (s : DS) : Option (AV × DS) :=
  match y.act with
  | false => none
  | true => match wantedA ops (tmV s.tm) y.o with
    | some true => match panAt pc (St.ev G s.tm) (viewA b y s.h.lim s.news s.h s.got) y.o with
      | none => none
      | some (x, h) => match Nat.ble s.h.lim h.lim && Nat.ble h.lim (farA b) with
        | false => none
        | true => match putA nt s.tm y.o.dst .dead with
          | none => none
          | some tm => some (x, { s with tm, h, got := Nat.lor (Nat.lor s.got y.anc) (bit y.j), past := s.past ++ [(h, Nat.lor (Nat.lor s.got y.anc) (bit y.j))] })
    | _ => none
noncomputable def rowsRest (j0 : Nat) : List DRow → DS → Option DS
  | [], s => some s
  | y :: ys, s => match hasBit y.anc j0 with
    | true => match skipA nt y s with
      | some s' => rowsRest j0 ys s'
      | none => none
    | false => match rowA P G call ops b nt y s with
      | some s' => rowsRest j0 ys s'
      | none => none
noncomputable def rowsPan : List DRow → DS → Option (Nat × AV × AHeap × DS)
  | [], _ => none
  | y :: ys, s => match rowA P G call ops b nt y s with
    | some s' => rowsPan ys s'
    | none => match panA G pc ops b nt y s with
      | some (x, s') => match rowsRest P G call ops b nt y.j ys s' with
        | some d => some (y.j, x, s'.h, d)
        | none => none
      | none => none
noncomputable def killA : List Oper → Tr AV → Tr AV
  | [], tm => tm
  | o :: l, tm => match o.dst with
    | some d => (killA l tm).put d .dead
    | none => killA l tm
noncomputable def listPan (rows : List DRow) (s : St) : Option (AV × St) :=
  match pairsOK rows && Nat.ble (Nat.add s.h.lim ops.size) (farA s.h.lim) with
  | false => none
  | true => match rowsPan P G call pc ops s.h.lim s.n rows { tm := s.tm, news := [], h := { next := 0, lim := Nat.add s.h.lim ops.size, t := s.h.t }, got := 0, past := [({ next := 0, lim := Nat.add s.h.lim ops.size, t := s.h.t }, 0)], reads := [] } with
    | none => none
    | some (_, x, hp, d) => match d.reads.all (readOK P G call s.h.lim rows d.news d.past) && (d.news.all (fun n => notGrow n.2) && d.past.all (fun c => d.news.all (fun n => noGrowAt c.1 (Nat.add s.h.lim n.1)))) with
      | false => none
      | true => some (x, { tm := killA ops.toList s.tm, n := s.n, h := { next := hp.lim, lim := Nat.succ hp.lim, t := hp.t }, df := s.df })
/-- A row of open order that panics. -/
noncomputable def drawPan (s : St) : Option (AV × St) := listPan P G call pc ops (rowsA ops) s
end

section
variable {P : Program} {G : Nat → Option (List AV)} {call : CallF} {pc : PCall} {ops : Array Oper} {b nt : Nat} {f0 : Nat → AV} {s s1 : DS} {p0 p : Plan} {j : Nat} {o : Oper}
theorem killA_get : ∀ (l : List Oper) (tm : Tr AV) (t : Nat), tmV (killA l tm) t = if ∃ o ∈ l, o.dst = some t then .dead else tmV tm t
  | [], tm, t => by simp [killA]
  | o :: l, tm, t => by
    have ih := killA_get l tm t
    unfold killA
    cases hd : o.dst with
    | none =>
      simp only [List.mem_cons, exists_eq_or_imp, hd, reduceCtorEq, false_or]
      exact ih
    | some d =>
      simp only [List.mem_cons, exists_eq_or_imp, hd, Option.some.injEq]
      by_cases e : d = t
      · subst e
        rw [if_pos (.inl rfl)]
        show (((killA l tm).put d .dead).get d).getD (.sc undef) = .dead
        rw [Tr.get_put, if_pos rfl]
        rfl
      · have : tmV ((killA l tm).put d .dead) t = tmV (killA l tm) t := by
          unfold tmV
          rw [Tr.get_put, if_neg e]
        rw [this, ih]
        simp [e]

/-- What holds of the operation that panics. -/
def PanOK (G : Nat → Option (List AV)) (pc : PCall) (ops : Array Oper) (b nt : Nat) (f0 : Nat → AV) (p : Plan) (j : Nat) (o : Oper) (x : AV) (hp : AHeap) : Prop :=
  (∀ d, o.dst = some d → d < nt) ∧ wantedA ops (tvN f0 ops p.val (fun _ => true) j) o = some true ∧ isAct o = true ∧ p.val j = .dead ∧ p.nw j = none ∧ (p.ch (kU ops j + 1)).1 = hp ∧
    (∃ S : AHeap, S.next = b + j ∧ S.lim = (p.ch (kU ops j)).1.lim ∧ (∀ id, S.t.get id = mixG b p.nw (hasBit (ancA ops j)) (p.ch (kU ops j)) id) ∧
      panAt pc (evF G (tvN f0 ops p.val (fun _ => true) j)) S o = some (x, hp)) ∧
    (p.ch (kU ops j + 1)).2 = Nat.lor (Nat.lor (p.ch (kU ops j)).2 (ancA ops j)) (bit j) ∧
    (p.ch (kU ops j)).1.lim ≤ (p.ch (kU ops j + 1)).1.lim ∧ (p.ch (kU ops j + 1)).1.lim ≤ farA b

theorem skipA_step (hat : At ops f0 j s p0) (ho : ops[j]? = some o) (h : skipA nt (rowOf ops j o) s = some s1) :
    ∃ p1, Agree ops j p1 p0 ∧ At ops f0 (j + 1) s1 p1 ∧ (∀ r ∈ s.reads, r ∈ s1.reads) := by
  unfold skipA at h
  simp only [rowOf] at h
  split at h
  · cases h
  · rename_i tm htm
    obtain ⟨q1, q2⟩ := putA_spec htm
    split at h
    · rename_i hact
      cases h
      exact ⟨updP ops p0 j .dead none (s.h, Nat.lor s.got (bit j)), agree_upd _ _ _ _, hat.upd ho q2 (by simp) (.inl ⟨hact, rfl, rfl⟩), fun r hr => hr⟩
    · rename_i hact
      cases h
      exact ⟨updP ops p0 j .dead none (s.h, s.got), agree_upd _ _ _ _, hat.upd ho q2 (by simp) (.inr ⟨hact, rfl, rfl, rfl⟩), fun r hr => hr⟩

theorem panA_step (hok : pairsOK (rowsA ops) = true) (hat : At ops f0 j s p0) (ho : ops[j]? = some o) {x : AV} (h : panA G pc ops b nt (rowOf ops j o) s = some (x, s1)) :
    ∃ p1, Agree ops j p1 p0 ∧ At ops f0 (j + 1) s1 p1 ∧ (∀ r ∈ s.reads, r ∈ s1.reads) ∧ ∀ p, Agree ops (j + 1) p p1 → PanOK G pc ops b nt f0 p j o x s1.h := by
  have hj : j < ops.size := (Array.getElem?_eq_some_iff.1 ho).1
  have hev : St.ev G s.tm = evF G (tvN f0 ops p0.val (fun _ => true) j) := by unfold St.ev; rw [hat.tm]
  have key : ∀ {v x c p}, Agree ops (j + 1) p (updP ops p0 j v x c) → p.val j = v ∧ p.nw j = x ∧ p.ch (kU ops j) = (s.h, s.got) ∧ tvN f0 ops p.val (fun _ => true) j = tvN f0 ops p0.val (fun _ => true) j ∧
      (∀ i ob, (i, ob) ∈ s.news ↔ i < j ∧ p.nw i = some ob) ∧ (isAct o = true → p.ch (kU ops j + 1) = c) := by
    intro v x c p ha
    have a0 := ha.1 j (by omega)
    refine ⟨by rw [a0.1]; simp [updP], by rw [a0.2]; simp [updP], ?_, ?_, fun i ob => ?_, fun hact => ?_⟩
    · rw [ha.2 _ (by rw [kU_succ ho]; omega), hat.c]; simp [updP]
    · exact funext fun t => tvN_congr (fun _ _ _ => rfl) fun i hi => by rw [(ha.1 i (by omega)).1]; simp [updP, Nat.ne_of_lt hi]
    · rw [hat.news]
      constructor
      · rintro ⟨h1, h2⟩; exact ⟨h1, by rw [(ha.1 i (by omega)).2]; simp [updP, Nat.ne_of_lt h1, h2]⟩
      · rintro ⟨h1, h2⟩; exact ⟨h1, by rw [(ha.1 i (by omega)).2] at h2; simpa [updP, Nat.ne_of_lt h1] using h2⟩
    · rw [ha.2 _ (by rw [kU_succ ho, if_pos hact]; omega)]
      simp only [updP]
      rw [if_neg (by omega)]
  have view : ∀ {p : Plan}, (∀ i ob, (i, ob) ∈ s.news ↔ i < j ∧ p.nw i = some ob) → p.ch (kU ops j) = (s.h, s.got) → ∀ id, (addNews b (ancA ops j) s.got s.news s.h.t).get id = mixG b p.nw (hasBit (ancA ops j)) (p.ch (kU ops j)) id := by
    intro p h1 h2 id
    rw [h2]
    exact addNews_mix h1 (fun i h3 _ => anc_lt hok hj h3) id
  unfold panA at h
  simp only [rowOf] at h
  rw [hat.tm] at h
  split at h
  · cases h
  · rename_i hact
    split at h
    · rename_i hw
      split at h
      · cases h
      · rename_i y h' hs
        split at h
        · cases h
        · rename_i hb
          simp only [Bool.and_eq_true, Nat.ble_eq] at hb
          split at h
          · cases h
          · rename_i tm htm
            obtain ⟨q1, q2⟩ := putA_spec htm
            cases h
            refine ⟨updP ops p0 j .dead none (h', Nat.lor (Nat.lor s.got (ancA ops j)) (bit j)), agree_upd _ _ _ _, hat.upd ho q2 (by simp) (.inl ⟨hact, rfl, rfl⟩), fun r hr => hr, fun p ha => ?_⟩
            obtain ⟨k1, k2, k3, k4, k5, k6⟩ := key ha
            have k7 := k6 hact
            refine ⟨q1, by rw [k4]; exact hw, hact, k1, k2, by rw [k7], ⟨viewA b (rowOf ops j o) s.h.lim s.news s.h s.got, rfl, ?_, view k5 k3, ?_⟩, ?_, ?_, ?_⟩
            · rw [k3]; rfl
            · rw [k4, ← hev]; exact hs
            · rw [k7, k3]
            · rw [k7, k3]; exact hb.1
            · rw [k7]; exact hb.2
    · cases h

theorem rowsRest_plan (hok : pairsOK (rowsA ops) = true) {j0 : Nat} : ∀ (ys : List DRow) (j : Nat) (s s' : DS) (p0 : Plan), (∀ i, ys[i]? = (rowsA ops)[j + i]?) → At ops f0 j s p0 → rowsRest P G call ops b nt j0 ys s = some s' →
    ∃ p, Agree ops j p p0 ∧ At ops f0 (j + ys.length) s' p ∧ (∀ r ∈ s.reads, r ∈ s'.reads) ∧ ∀ i o, j ≤ i → ops[i]? = some o → hasBit (ancA ops i) j0 = false → RowOK P G call ops b nt f0 (RD P G call ops b f0 s' p i o) p i o
  | [], j, s, s', p0, hy, hat, h => by
    simp only [rowsRest, Option.some.injEq] at h
    subst h
    refine ⟨p0, Agree.refl _, hat, fun r hr => hr, fun i o hji ho _ => ?_⟩
    have := hy (i - j)
    rw [show j + (i - j) = i by omega, rowsA_get, ho] at this
    simp at this
  | y :: ys, j, s, s', p0, hy, hat, h => by
    simp only [rowsRest] at h
    have h0 := hy 0
    simp only [List.getElem?_cons_zero, Nat.add_zero, rowsA_get] at h0
    cases ho : ops[j]? with
    | none => rw [ho] at h0; simp at h0
    | some o =>
      rw [ho] at h0
      simp only [Option.map_some, Option.some.injEq] at h0
      subst h0
      have hy' : ∀ i, ys[i]? = (rowsA ops)[j + 1 + i]? := fun i => by
        have := hy (i + 1)
        rw [List.getElem?_cons_succ] at this
        rw [this]
        congr 1
        omega
      split at h
      · rename_i hb
        split at h
        · rename_i s1 hs1
          obtain ⟨p1, a1, a2, a3⟩ := skipA_step hat ho hs1
          obtain ⟨p, b1, b2, b3, b4⟩ := rowsRest_plan hok ys (j + 1) s1 s' p1 hy' a2 h
          refine ⟨p, (b1.pred ho).trans a1, ?_, fun r hr => b3 r (a3 r hr), fun i o' hji ho' hd => ?_⟩
          · rw [List.length_cons, show j + (ys.length + 1) = j + 1 + ys.length by omega]
            exact b2
          · by_cases e : i = j
            · subst e
              rw [show hasBit (ancA ops i) j0 = true from hb] at hd
              cases hd
            · exact b4 i o' (by omega) ho' hd
        · cases h
      · split at h
        · rename_i s1 hs1
          obtain ⟨p1, a1, a2, a3, a4⟩ := rowA_step hok hat ho hs1
          obtain ⟨p, b1, b2, b3, b4⟩ := rowsRest_plan hok ys (j + 1) s1 s' p1 hy' a2 h
          refine ⟨p, (b1.pred ho).trans a1, ?_, fun r hr => b3 r (a3 r hr), fun i o' hji ho' hd => ?_⟩
          · rw [List.length_cons, show j + (ys.length + 1) = j + 1 + ys.length by omega]
            exact b2
          · by_cases e : i = j
            · subst e
              rw [ho] at ho'
              cases ho'
              exact a4 p s' b1 b3
            · exact b4 i o' (by omega) ho' hd
        · cases h

theorem rowsPan_plan (hok : pairsOK (rowsA ops) = true) {j0 : Nat} {x : AV} {hp : AHeap} : ∀ (ys : List DRow) (j : Nat) (s s' : DS) (p0 : Plan), (∀ i, ys[i]? = (rowsA ops)[j + i]?) → At ops f0 j s p0 → rowsPan P G call pc ops b nt ys s = some (j0, x, hp, s') →
    ∃ p, Agree ops j p p0 ∧ At ops f0 (j + ys.length) s' p ∧ (∀ r ∈ s.reads, r ∈ s'.reads) ∧ j ≤ j0 ∧ (∃ o, ops[j0]? = some o ∧ PanOK G pc ops b nt f0 p j0 o x hp) ∧
      ∀ i o, j ≤ i → ops[i]? = some o → i ≠ j0 → hasBit (ancA ops i) j0 = false → RowOK P G call ops b nt f0 (RD P G call ops b f0 s' p i o) p i o
  | [], j, s, s', p0, hy, hat, h => by simp [rowsPan] at h
  | y :: ys, j, s, s', p0, hy, hat, h => by
    simp only [rowsPan] at h
    have h0 := hy 0
    simp only [List.getElem?_cons_zero, Nat.add_zero, rowsA_get] at h0
    cases ho : ops[j]? with
    | none => rw [ho] at h0; simp at h0
    | some o =>
      rw [ho] at h0
      simp only [Option.map_some, Option.some.injEq] at h0
      subst h0
      have hy' : ∀ i, ys[i]? = (rowsA ops)[j + 1 + i]? := fun i => by
        have := hy (i + 1)
        rw [List.getElem?_cons_succ] at this
        rw [this]
        congr 1
        omega
      split at h
      · rename_i s1 hs1
        obtain ⟨p1, a1, a2, a3, a4⟩ := rowA_step hok hat ho hs1
        obtain ⟨p, b1, b2, b3, bj, bp, b4⟩ := rowsPan_plan hok ys (j + 1) s1 s' p1 hy' a2 h
        refine ⟨p, (b1.pred ho).trans a1, ?_, fun r hr => b3 r (a3 r hr), by omega, bp, fun i o' hji ho' hne hd => ?_⟩
        · rw [List.length_cons, show j + (ys.length + 1) = j + 1 + ys.length by omega]
          exact b2
        · by_cases e : i = j
          · subst e
            rw [ho] at ho'
            cases ho'
            exact a4 p s' b1 b3
          · exact b4 i o' (by omega) ho' hne hd
      · split at h
        · rename_i y1 s1 hs1
          split at h
          · rename_i d hd
            simp only [Option.some.injEq, Prod.mk.injEq] at h
            obtain ⟨rfl, rfl, rfl, rfl⟩ := h
            obtain ⟨p1, a1, a2, a3, a4⟩ := panA_step hok hat ho hs1
            obtain ⟨p, b1, b2, b3, b4⟩ := rowsRest_plan hok ys (j + 1) s1 d p1 hy' a2 hd
            refine ⟨p, (b1.pred ho).trans a1, ?_, fun r hr => b3 r (a3 r hr), Nat.le_refl _, ⟨o, ho, a4 p b1⟩, fun i o' hji ho' hne hd' => ?_⟩
            · rw [List.length_cons, show j + (ys.length + 1) = j + 1 + ys.length by omega]
              exact b2
            · exact b4 i o' (by have : i ≠ j := hne; omega) ho' hd'
          · cases h
        · cases h

theorem panAt_congr {ev ev' : Operand → AV} {S : AHeap} {o : Oper} (hx : ∀ x ∈ o.op.operands, ev x = ev' x) : panAt pc ev S o = panAt pc ev' S o := by
  unfold panAt
  split
  · rename_i c hc
    rw [hc] at hx
    simp only [Op.operands, Call.operands] at hx
    have ha : c.args.toList.map ev = c.args.toList.map ev' := map_evs fun x m => hx x (by simp [m])
    split
    · rfl
    · have ht : targetA ev c = targetA ev' c := by
        unfold targetA
        split
        · rename_i f hf
          have : ev f = ev' f := hx f (by simp [hf])
          rw [this, ha]
        · rfl
      rw [ht]
  · rfl
variable {df : List Deferred} {m0 m : Env} {R : Nat → Bool} {a : Act} {w : World}
/-- THE OPERATION THAT PANICS. -/
theorem Inv.pan (hpc : PCallOK P G pc) (hok : pairsOK (rowsA ops) = true) (hi : Inv df G ops b nt f0 p m0 R m a w) (hc : Closed ops R) (hRn : ∀ i, R i = true → i < ops.size) (ho : ops[j]? = some o) (hR : R j = false)
    (hanc : ∀ i, hasBit (ancA ops j) i = true → R i = true) (hsol : Solid ops b p) {x : AV} {hp : AHeap} (hpan : PanOK G pc ops b nt f0 p j o x hp) {K : Act → World → Prop} {Q : Exit → Act → World → Prop}
    (hQ : ∀ m' w' v, Inv df G ops b nt f0 p m0 (setR R j) m' (a.put o.dst undef) w' → V m' x v → (p.at ops (setR R j)).1 = hp → Q (.panic [pent v]) a w') : wpOpIn (fen none) 0 P ops Q j K a w := by
  letI : Rnd := plainR
  have hj : j < ops.size := (Array.getElem?_eq_some_iff.1 ho).1
  have haj : actN ops j = isAct o := by simp [actN, ho]
  obtain ⟨hlt, hw, hact, hval, hnw, hch, ⟨S, s1, s2, s3, s4⟩, c2, c3, c4⟩ := hpan
  subst hch
  have hsees : ∀ t ∈ seesA ops o, tvN f0 ops p.val R ops.size t = tvN f0 ops p.val (fun _ => true) j t := fun t ht => tv_sees hok hc ho hR hanc ht
  rw [← wantedA_congr hsees] at hw
  have hwant := wanted_sound hi.g.f hi.tm hw
  have hgm : ∀ {g s : Nat → Option AObj} {res : Nat → Prop}, GOK (m.hide g s w res) G := hi.g.wmono (m.hide_wle _ _ _ _)
  unfold wpOpIn
  simp only [ho, hwant, if_true]
  have hk := kR_act hok hc ho hR hanc hact
  have hkU : kU ops j + 1 ≤ kU ops ops.size := by
    have h1 := kU_succ ho
    rw [if_pos hact] at h1
    rw [← h1]
    exact kU_le hj
  have hcR : p.at ops R = p.ch (kU ops j) := by unfold Plan.at; rw [hk]
  have hcR' : p.at ops (setR R j) = p.ch (kU ops j + 1) := by unfold Plan.at; rw [kR_set ho hR, if_pos hact, hk]
  have hsub : ∀ id ob, S.t.get id = some ob → mixG b p.nw R (p.at ops R) id = some ob := by
    intro id ob e
    rw [s3, ← hcR] at e
    exact mixG_sub hanc hRn hi.clean id ob e
  have hr := hi.view ho hR s1 (by rw [s2, hcR]; omega) hsub
  rw [← panAt_congr (evF_congr hsees)] at s4
  unfold panAt at s4
  split at s4 <;> (try (cases s4; done))
  rename_i c hop
  split at s4 <;> (try (cases s4; done))
  rename_i hnb
  split at s4 <;> (try (cases s4; done))
  rename_i f args ht
  have eop : execOp a.eval o = (do let d ← resolve a.eval c o.type; invoke d.target d.args) := by
    unfold execOp
    simp only [hop]
  obtain ⟨hb, hc'⟩ := hpc f args S x _ s4
  obtain ⟨vs, g1, g2⟩ := target_run (w := w) (ty := o.type) hi.evs ht hb
  unfold Oper.wpIn
  refine ⟨fun _ _ => trivial, ?_⟩
  have e : (Oper.semAt (fen none).round a.eval o).run P w = .ok (.enter f vs) w := by
    show (Oper.semAt none a.eval o).run P w = _
    rw [Oper.semAt_none, eop, g2]
  rw [e]
  refine ⟨fun h => (by cases h), (callsIn_fen (n := 0)).2 ((hc' _ vs w g1 hr hgm).mono ?_)⟩
  rintro e w' ⟨v, m', rfl, h1, hvx, h3⟩
  show Q (.panic [pent v]) a w'
  have hw' : m'.wle { m' with F := m.F, res := m.res } := ⟨fun _ h => h, fun _ _ => rfl, fun _ _ h => h, rfl, rfl⟩
  refine hQ { m' with F := m.F, res := m.res } w' v (hi.did hok hc ho hR hlt h1 h3 (by rw [hval]; simp [V]) ?_ ?_ ?_ ?_ ?_ (fun id h => .inl h) ?_) (V.wmono hw' _ _ hvx) (by rw [hcR'])
  · intro id ob e
    rw [hcR'] at e
    unfold mixG at e
    split at e
    · rename_i hcond
      obtain ⟨k1, k2, k3, k4⟩ := hcond
      simp only [c2, hasBit_lor, Bool.or_eq_false_iff, hasBit_bit, decide_eq_false_iff_not] at k3
      obtain ⟨⟨k5, k6⟩, k7⟩ := k3
      have hRi : R (id - b) = true := by simpa [setR, Ne.symm k7] using k2
      refine afterG_hid ?_ ?_
      · unfold mixG
        rw [if_pos ⟨k1, hRi, by rw [hcR]; exact k5, k4⟩]
        exact e
      · rw [s3]
        unfold mixG
        rw [if_neg (by rw [k6]; simp)]
        have := hi.clean (id - b) (hRn _ hRi) (by rw [hcR]; exact k5)
        rw [hcR, show b + (id - b) = id by omega] at this
        exact this
    · rcases afterG_cases (S := S) (h' := (p.ch (kU ops j + 1)).1) (g := mixG b p.nw R (p.at ops R)) id with ⟨ob', k1, k2, k3⟩ | k
      · have hx : b ≤ id ∧ id - b < ops.size ∧ p.nw (id - b) = some ob' := by
          unfold mixG at k1
          split at k1
          · rename_i hcd
            exact ⟨hcd.1, hRn _ hcd.2.1, k1⟩
          · rename_i hcd
            rw [s3] at k2
            unfold mixG at k2
            split at k2
            · rename_i hcd2
              rw [k2] at hcd2
              simp at hcd2
            · rw [hcR] at k1
              rw [k1] at k2
              cases k2
        have hng := hsol.ch _ _ _ hkU hx.2.1 hx.2.2
        rw [show b + (id - b) = id by omega] at hng
        rw [hi.hg.apart h1 h3 k1 k2 (live_of (hsol.nw _ _ hx.2.1 hx.2.2)) (live_at hng)] at e
        cases e
      · rw [k]; exact e
  · intro id hd
    rw [hcR']
    exact (h3.next id hd).2
  · intro i k1 k2
    by_cases e : i = j
    · subst e
      rcases k2 with k2 | k2
      · simp [setR] at k2
      · rw [haj, hact] at k2; cases k2.1
    · simp only [setR, if_neg e] at k2
      exact (h3.res _ (h1.res _ (.inr (.inl ⟨i, k1, e, k2, rfl⟩)))).1
  · intro i k1 k2
    rw [hcR'] at k2 ⊢
    simp only [c2, hasBit_lor, Bool.or_eq_false_iff, hasBit_bit, decide_eq_false_iff_not] at k2
    obtain ⟨⟨k5, k6⟩, k7⟩ := k2
    have free : (R i = false ∨ (actN ops i = false ∧ p.nw i = none)) → (p.ch (kU ops j + 1)).1.t.get (b + i) = none := by
      intro hf
      have hnd := (h3.res _ (h1.res _ (.inr (.inl ⟨i, k1, Ne.symm k7, hf, rfl⟩)))).1
      cases hg : (p.ch (kU ops j + 1)).1.t.get (b + i) with
      | none => rfl
      | some y => exact absurd (h3.objL _ _ hg).1 hnd
    cases hRi : R i with
    | false => exact free (.inl hRi)
    | true =>
      cases hai : actN ops i with
      | true =>
        have := hi.acts i k1 hai hRi
        rw [hcR, k5] at this
        cases this
      | false =>
        cases hni : p.nw i with
        | none => exact free (.inr ⟨hai, hni⟩)
        | some ob =>
          refine hi.hg.apart (id := b + i) (o := ob) h1 h3 ?_ ?_ (live_of (hsol.nw _ _ k1 hni)) (live_at (hsol.ch _ _ _ hkU k1 hni))
          · unfold mixG
            rw [show b + i - b = i by omega, if_pos ⟨by omega, hRi, by rw [hcR]; exact k5, by rw [hni]; rfl⟩, hni]
          · rw [s3]
            unfold mixG
            rw [show b + i - b = i by omega, if_neg (by rw [k6]; simp)]
            have := hi.clean i k1 (by rw [hcR]; exact k5)
            rw [hcR] at this
            exact this
  · intro i k1 k2 k3
    rw [hcR']
    simp only [c2, hasBit_lor, Bool.or_eq_true, hasBit_bit, decide_eq_true_eq]
    by_cases e : i = j
    · exact .inr e.symm
    · simp only [setR, if_neg e] at k3
      have := hi.acts i k1 k2 k3
      rw [hcR] at this
      exact .inl (.inl this)
  · rw [hcR']
    have := hi.lim.1
    rw [hcR] at this
    exact ⟨by omega, c4⟩

/-- A ROW OF OPEN ORDER THAT PANICS. -/
theorem any_pan (hcall : CallRK P G call) (hpc : PCallOK P G pc) (hok : pairsOK (rowsA ops) = true) (hsol : Solid ops b p) {j0 : Nat} {o0 : Oper} {x : AV} {hp : AHeap} (ho0 : ops[j0]? = some o0) (hpan : PanOK G pc ops b nt f0 p j0 o0 x hp)
    (hrows : ∀ i o, ops[i]? = some o → i ≠ j0 → hasBit (ancA ops i) j0 = false → RowOK P G call ops b nt f0 (RDall P G call ops b f0 p i o) p i o) {Q : Exit → Act → World → Prop}
    (hQ : ∀ R m a w v, a.tmps.size = nt → a.defers = df → (∀ i, R i = true → i < ops.size) → Inv df G ops b nt f0 p m0 R m (a.put o0.dst undef) w → V m x v → (p.at ops R).1 = hp → Q (.panic [pent v]) a w) :
    ∀ (fuel : Nat) (listed : Array Bool) (m : Env) (a : Act) (w : World), listed.size = ops.size → listed.getD j0 false = false → Closed ops (fun i => listed.getD i false) → cnt (fun i => Bool.not (listed.getD i false)) ops.size = fuel →
      Inv df G ops b nt f0 p m0 (fun i => listed.getD i false) m a w → wpAnyIn (fen none) 0 P .any ops Q fuel listed a w := by
  letI : Rnd := plainR
  have hj0 : j0 < ops.size := (Array.getElem?_eq_some_iff.1 ho0).1
  intro fuel
  induction fuel with
  | zero =>
    intro listed m a w hsz hl0 hcl hct hinv
    have h1 := cnt_insert (g := fun i => Bool.not (listed.getD i false) && Bool.not (decide (i = j0))) (g' := fun k => Bool.not (listed.getD k false)) (j := j0) (n := ops.size) (by simp) (by simpa using hl0) (fun k hk => by simp [hk]) hj0
    omega
  | succ fuel ih =>
    intro listed m a w hsz hl0 hcl hct hinv
    have hlt : ∀ i, listed.getD i false = true → i < ops.size := by
      intro i hi
      rcases Nat.lt_or_ge i ops.size with h | h
      · exact h
      · simp [Array.getElem?_eq_none (by omega : listed.size ≤ i)] at hi
    refine ⟨fun hnil => ?_, fun j hj => ?_⟩
    · obtain ⟨i, h1, h2, h3⟩ := cnt_pos (g := fun i => Bool.not (listed.getD i false)) (n := ops.size) (by omega)
      have : i ∈ Region.ready .any ops listed := by
        rw [mem_ready]
        have hil : i < listed.size := by omega
        refine ⟨?_, ops[i], Array.getElem?_eq_getElem h1, fun e he hb => ?_⟩
        · simp [hil] at h2 ⊢
          exact h2
        · have := anc_lt hok h1 (anc_pre (Array.getElem?_eq_getElem h1) he hb)
          have := h3 _ this
          simpa using this
      rw [hnil] at this
      cases this
    · rw [mem_ready] at hj
      obtain ⟨h1, o, h2, h3⟩ := hj
      have hjn := (Array.getElem?_eq_some_iff.1 h2).1
      have hjl : j < listed.size := by omega
      have hRj : listed.getD j false = false := by
        simp [hjl] at h1 ⊢
        exact h1
      have hanc := anc_in hcl j o h2 h3
      by_cases hj : j = j0
      · subst hj
        rw [h2] at ho0
        cases ho0
        refine hinv.pan hpc hok hcl hlt h2 hRj hanc hsol hpan fun m' w' v hinv' hv hh => ?_
        refine hQ _ m' a w' v hinv.size hinv.defers (fun i hi => ?_) hinv' hv hh
        simp only [setR] at hi
        split at hi
        · rename_i e
          rw [e]
          exact hjn
        · exact hlt i hi
      have hd : hasBit (ancA ops j) j0 = false := by
        cases hb : hasBit (ancA ops j) j0 with
        | false => rfl
        | true =>
          have := hanc j0 hb
          rw [hl0] at this
          cases this
      refine hinv.step hcall hok hcl hlt h2 hRj hanc hsol (hrows j o h2 hj hd) fun m' a' w' hinv' => ?_
      have hset := listed_set hjl
      refine ih (listed.setIfInBounds j true) m' a' w' (by simpa using hsz) ?_ ?_ ?_ ?_
      · have := congrFun hset j0
        simp only [setR, if_neg (Ne.symm hj)] at this
        rw [this]
        exact hl0
      · rw [hset]
        intro i oi hi hRi e he hb
        simp only [setR] at hRi ⊢
        split
        · rfl
        · split at hRi
          · rename_i e1
            subst e1
            rw [h2] at hi
            cases hi
            exact h3 e he hb
          · exact hcl i oi hi hRi e he hb
      · have := cnt_insert (g := fun i => Bool.not ((listed.setIfInBounds j true).getD i false)) (g' := fun i => Bool.not (listed.getD i false)) (j := j) (n := ops.size) (by
          have := congrFun hset j
          simp only [setR] at this
          rw [this]; simp) (by rw [hRj]; rfl) (fun i hi => by
          have := congrFun hset i
          simp only [setR, if_neg hi] at this
          rw [this]) hjn
        omega
      · rw [hset]
        exact hinv'
end

section
variable {P : Program} {G : Nat → Option (List AV)} {call : CallF} {pc : PCall} {ops : Array Oper}
theorem drawPan_sound (hm : P.follows .mixedOrders = true) (hcall : CallRK P G call) (hpc : PCallOK P G pc) {id : Nat} {m0 : Env} {s s' : St} {x : AV} {a : Act} {w : World} {Q : Exit → Act → World → Prop} (hr : @RS O plainR m0 G s a w) (hs : drawPan P G call pc ops s = some (x, s'))
    (hQ : ∀ m' a' w' v, m0.le m' → @RS O plainR m' G s' a' w' → V m' x v → Q (.panic [pent v]) a' w') : (Code.region id ops true).wpIn (fen none) 0 P Q a w := by
  letI : Rnd := plainR
  unfold drawPan listPan at hs
  split at hs
  · cases hs
  rename_i hpre
  simp only [Bool.and_eq_true, Nat.ble_eq] at hpre
  obtain ⟨hok, hfar⟩ := hpre
  split at hs
  · cases hs
  rename_i j0 x' hp d hrun
  split at hs
  · cases hs
  rename_i hrd
  simp only [Option.some.injEq, Prod.mk.injEq] at hs
  obtain ⟨rfl, rfl⟩ := hs
  simp only [Bool.and_eq_true] at hrd
  obtain ⟨hrd, hsn, hsc⟩ := hrd
  have hfar' : s.h.lim + ops.size ≤ farA s.h.lim := hfar
  have hlen : (rowsA ops).length = ops.size := by
    have h1 := rowsA_get ops ops.size
    simp at h1
    rcases Nat.lt_or_ge (rowsA ops).length ops.size with h | h
    · have h2 := rowsA_get ops (rowsA ops).length
      simp [h] at h2
    · omega
  obtain ⟨p, g1, g2, g3, _, ⟨o0, ho0, hpan⟩, g4⟩ := rowsPan_plan (f0 := tmV s.tm) (p0 := { val := fun _ => .dead, nw := fun _ => none, ch := fun _ => ({ next := 0, lim := Nat.add s.h.lim ops.size, t := s.h.t }, 0) }) hok (rowsA ops) 0 _ _ (by simp)
    ⟨rfl, by simp, rfl, fun i hi => by have : i = 0 := Nat.le_zero.1 hi; subst this; rfl, rfl⟩ hrun
  rw [Nat.zero_add, hlen] at g2
  have hch0 : p.ch 0 = ({ next := 0, lim := Nat.add s.h.lim ops.size, t := s.h.t }, 0) := g1.2 0 (Nat.zero_le _)
  have hrows : ∀ i o, ops[i]? = some o → i ≠ j0 → hasBit (ancA ops i) j0 = false → RowOK P G call ops s.h.lim s.n (tmV s.tm) (RDall P G call ops s.h.lim (tmV s.tm) p i o) p i o := by
    intro i o ho hne hd
    obtain ⟨r1, bw, r2, r3⟩ := g4 i o (Nat.zero_le _) ho hne hd
    refine ⟨r1, bw, r2, ?_⟩
    rcases r3 with r3 | r3 | r3 | r3 | ⟨e1, e2, e3, e4, e5⟩
    · exact .inl r3
    · exact .inr (.inl r3)
    · exact .inr (.inr (.inl r3))
    · exact .inr (.inr (.inr (.inl r3)))
    · exact .inr (.inr (.inr (.inr ⟨e1, e2, e3, e4, RD_all hok g2 ho hrd e5⟩)))
  have hsol : Solid ops s.h.lim p := ⟨fun i ob hi hn => List.all_eq_true.1 hsn (i, ob) ((g2.news i ob).2 ⟨hi, hn⟩), fun k i ob hk hi hn => by
    have h1 := List.all_eq_true.1 hsc (p.ch k) (List.mem_iff_getElem?.2 ⟨k, g2.past k hk⟩)
    exact List.all_eq_true.1 h1 (i, ob) ((g2.news i ob).2 ⟨hi, hn⟩)⟩
  refine wpIn_region_any hm ?_
  refine any_pan (df := a.defers) (b := s.h.lim) (nt := s.n) (f0 := tmV s.tm) (p := p) (m0 := m0) hcall hpc hok hsol ho0 hpan hrows (fun R m a1 w1 v hsz hdf h2 hi hv hh => ?_) ops.size (Array.replicate ops.size false) m0 a { w with drawn := w.drawn + 1 } (by simp) (by simp only [Array.getD_eq_getD_getElem?, Array.getElem?_replicate]; split <;> rfl) ?_ ?_ ?_
  · -- the panic
    have hlt0 := hpan.1
    refine hQ m a1 w1 v hi.le ⟨hsz, fun t => ?_, by rw [hdf]; exact DRo.wmono hi.le.towle _ _ hr.defers, hr.rnd, ?_, hi.g⟩ hv
    · show V m (tmV (killA ops.toList s.tm) t) _
      rw [killA_get]
      split
      · simp [V]
      · rename_i hno
        have hno' : ∀ (i : Nat) (o : Oper), ops[i]? = some o → o.dst ≠ some t := fun i o ho e => hno ⟨o, List.mem_iff_getElem?.2 ⟨i, by simpa using ho⟩, e⟩
        have h3 := hi.tm t
        rw [tmps_put (by rw [hsz]; exact hlt0), if_neg (hno' j0 o0 ho0), tvN_stop (j := 0) (Nat.zero_le _) fun i _ _ e => by
          cases hoi : ops[i]? with
          | none => rw [hoi] at e; cases e
          | some o => rw [hoi] at e; exact absurd e (hno' i o hoi)] at h3
        exact h3
    · have hd := hi.dom
      have hl := hi.lim
      rw [hh] at hd hl
      refine HG.hr (hi.hg.sub fun id ob e => ?_) (fun id hid => ?_) (Nat.lt_succ_self _) fun id hid => ?_
      · have e : hp.t.get id = some ob := e
        unfold mixG
        rw [hh]
        rw [if_neg]
        · exact e
        · rintro ⟨k1, k2, k3, k4⟩
          have := hi.clean (id - s.h.lim) (h2 _ k2) k3
          rw [hh, show s.h.lim + (id - s.h.lim) = id by omega, e] at this
          cases this
      · have := hd id hid
        exact ⟨by simp only; omega, by simp only; omega⟩
      · rw [hi.resEq] at hid
        obtain ⟨k1, k2⟩ := hi.res id hid
        exact ⟨k1, by simp only; omega, by simp only; omega⟩
  · intro i o _ hR
    simp [Array.getElem?_replicate] at hR
    split at hR <;> simp at hR
  · have : ∀ i, i < ops.size → Bool.not ((Array.replicate ops.size false).getD i false) = true := by
      intro i hi
      simp [Array.getElem?_replicate, hi]
    have h2 : cnt (fun i => Bool.not ((Array.replicate ops.size false).getD i false)) ops.size = cnt (fun _ => true) ops.size := cnt_congr this
    rw [h2]
    have h3 : ∀ n, cnt (fun _ => true) n = n := by
      intro n
      induction n with
      | zero => rfl
      | succ n ih => simp [cnt, ih]
    exact h3 _
  · have hR : (fun i => (Array.replicate ops.size false).getD i false) = fun _ => false := by
      funext i
      simp only [Array.getD_eq_getD_getElem?, Array.getElem?_replicate]
      split <;> rfl
    rw [hR]
    have hk0 : kR ops (fun _ => false) = 0 := cnt_zero fun i _ => by simp
    have hat : p.at ops (fun _ => false) = ({ next := 0, lim := Nat.add s.h.lim ops.size, t := s.h.t }, 0) := by unfold Plan.at; rw [hk0, hch0]
    have hh := hr.h
    have hh' : HR m0 s.h { w with drawn := w.drawn + 1 } := hh.same rfl
    refine ⟨hr.size, fun t => ?_, rfl, ?_, fun id hd => ?_, fun i hi _ hd => ?_, fun i hi _ => ?_, (fun i hi _ h => by cases h), fun id hd => ?_, rfl, Env.le.refl _, hr.g, ?_⟩
    · have e : tvN (tmV s.tm) ops p.val (fun _ => false) ops.size t = tmV s.tm t := by
        rw [tvN_stop (j := 0) (Nat.zero_le _) fun _ _ _ _ => rfl]
        rfl
      rw [e]
      exact hr.tm t
    · rw [hat]
      exact hh'.hg.sub fun id ob e => by
        unfold mixG at e
        rw [if_neg (by simp)] at e
        exact e
    · rw [hat]
      have := hh.next id hd
      show id < s.h.lim + ops.size
      omega
    · have := hh.next _ hd
      omega
    · rw [hat]
      show s.h.t.get (s.h.lim + i) = none
      cases hg : s.h.t.get (s.h.lim + i) with
      | none => rfl
      | some y =>
        have := hh.next _ (hh.objL _ _ hg).1
        omega
    · obtain ⟨k1, k2, k3⟩ := hh.res id hd
      exact ⟨k1, k3⟩
    · rw [hat]
      exact ⟨Nat.le_refl _, hfar⟩
end
end Go.AM
namespace Go.AM
open Go

section
variable {P : Program} {G : Nat → Option (List AV)} {I : Nat → List DV → DV}

/-- From a loop's head to a template at its end. -/
theorem lle_inner {O : Orc} {m m1 : Env} {s : St} {a : Act} {w : World} {T Y : Tmpl} {ω : List Nat} {τ : List SX} {R' : Rho} (hr : @RS O plainR m1 G s a w) (hm : Matched Y ω τ s) (hle : m.le m1) (hcov : ∀ id, namesB T.ob id = true → namesB Y.ob id = true) :
    m.lle (namesB T.ob) (m1.inner R' Y ω w) := by
  refine ⟨fun id hn hd => ⟨.inl (hcov id hn), ?_⟩, fun b o e => hle.E b o e, fun b x hb => ?_, hle.io⟩
  · simp only [Env.inner, blk_noown (O := O) hm (hcov id hn)]
    exact hle.mu id hd
  · have h1 := hle.F b x hb
    simp only [Env.inner]
    rw [if_pos, hr.h.F b x h1]
    refine ⟨hr.h.EF b x h1, ?_, ?_⟩
    · rintro ⟨id, hid, rfl⟩
      obtain ⟨_, c, _, k1, hmo⟩ := matched_blk (O := O) hm hid
      have := (hr.h.obj id _ k1 (matchObj_live hmo _)).2.1.2
      rw [this] at h1
      cases h1
    · rintro ⟨i, j, hj, hc, rfl⟩
      obtain ⟨o, _, _, e, h3, _⟩ := owF_grow hm.ow hj
      have := ((hr.h.objL j _ h3).2.1 hc).2
      rw [this] at h1
      cases h1

/-- One round. -/
def StepOK (I : Nat → List DV → DV) (run : List (SX × Bool) → St → Run) (L : LoopSp) (inv : Rho → Prop) (μ : Rho → Nat) (R : Rho) : Prop :=
  ∃ facts : List (SX × Bool), (∀ p ∈ facts, den R p.1 = .bool p.2) ∧ ∃ e s1, run facts (L.T.st L.n) = some (e, s1) ∧
    ((∃ b ω τ s2, den R L.cnd = .bool b ∧ (L.pick b).1 = e ∧ e ≠ .normal ∧ headOf (L.pick b).2.1 s1 = some (ω, τ, s2) ∧ (Nat.beq s2.n L.n && matchSt (L.pick b).2.1 ω τ s2) = true ∧ τ.map (den R) = (L.pick b).2.2.map (den R)) ∨
     (e = .normal ∧ ∃ ω τ s2, headOf L.T s1 = some (ω, τ, s2) ∧ (Nat.beq s2.n L.n && matchSt L.T ω τ s2) = true ∧ inv (R.sub τ) ∧ μ (R.sub τ) < μ R ∧ den (R.sub τ) L.cnd = den R L.cnd ∧ ∀ b, den R L.cnd = .bool b → (L.pick b).2.2.map (den (R.sub τ)) = (L.pick b).2.2.map (den R)))

variable {spec : Orc → FuncId → Option (List AV → AHeap → Out)} {lps : Nat → List LoopSp}

/-- A LOOP's CONTRACT, by its rounds. -/
theorem loop_ind (hm : P.follows .mixedOrders = true) (hN : ∀ (f : FuncId) (fn : Func), P.funcs[f]? = some fn → (fn.name == "runtime.NumGoroutine") = false) (hsp : ∀ O : Orc, O.I = I → @SpecOK O P G (spec O)) (hG : PlainG G) (n : Nat) {B : Code} {L : LoopSp}
    {sub : FuncId → List (Nat → List LoopSp)} (hs : SubOK P G I sub) (hl : LoopsOK P G I lps B) (hok : (L.yes.2.1.ok L.T L.n && L.no.2.1.ok L.T L.n) = true) (inv : Rho → Prop) (μ : Rho → Nat)
    (init : ∀ m a w, @RS (noFacts I) plainR m G (L.T.st L.n) a w → (∀ p ∈ L.pre, den m.R p.1 = .bool p.2) → inv m.R)
    (step : ∀ R, R.I = I → inv R → StepOK I (fun facts s => @codeM (mkO facts I) P G (spec (mkO facts I)) n sub lps B s) L inv μ R) : LoopOK P G I B L := by
  have hok' : ∀ b, (L.pick b).2.1.ok L.T L.n = true := by
    simp only [Bool.and_eq_true] at hok
    intro b
    cases b
    · exact hok.2
    · exact hok.1
  have main : ∀ (N : Nat) (m : Env) (a : Act) (w : World) (Q : Exit → Act → World → Prop), inv m.R → μ m.R < N → (∀ id, m.dom id → namesB L.T.ob id = true ∨ namesO L.T.ow id = true) → (∀ id, ¬ m.res id) → @RS (noFacts I) plainR m G (L.T.st L.n) a w → ∀ b, den m.R L.cnd = .bool b →
      (∀ m' a' w', m.lle (namesB L.T.ob) m' → m'.R = m.R.sub (L.pick b).2.2 → @RS (noFacts I) plainR m' G ((L.pick b).2.1.st L.n) a' w' → Q (exOf (L.pick b).1) a' w') → Code.rounds P B Q N a w := by
    intro N
    induction N with
    | zero => intro m a w Q _ h; omega
    | succ N ih =>
      intro m a w Q hinv hμ hdom hres hr b hb hQ
      rw [rounds_succ]
      have hRI : m.R.I = I := by obtain ⟨_, _, _, _, _, _, y, _⟩ := hr; exact y
      obtain ⟨facts, hf, e, s1, hrun, hcase⟩ := step m.R hRI hinv
      obtain ⟨z1, z2, z3, zr, z4, z5, _⟩ := hr
      have hr2 : @RS (mkO facts I) plainR m G (L.T.st L.n) a w := @RS.mk (mkO facts I) plainR _ _ _ _ _ z1 z2 z3 zr z4 (@GOK.mk (mkO facts I) _ _ z5 (mkO_ok hRI hf))
      refine @codeM_sound (mkO facts I) P G (spec (mkO facts I)) lps hm hN (hsp _ rfl) hG n sub hs B hl m _ s1 e a w _ hr2 hrun ?_
      intro m1 a1 w1 hle hr1
      have fok : ∀ τ, @FactsOK (noFacts I) (m.R.sub τ) := fun τ => by
        have := noFacts_ok (m.R.sub τ)
        rw [show (m.R.sub τ).I = I from hRI] at this
        exact this
      rcases hcase with ⟨b', ω, τ, s2, hb', hpick, hne, hhd, hex, hden⟩ | ⟨rfl, ω, τ, s2, hhd, hex, hinv', hμ', hc, hxs⟩
      · rw [hb] at hb'
        cases hb'
        simp only [Bool.and_eq_true, Nat.beq_eq] at hex
        obtain ⟨h1, h2⟩ := hex
        obtain ⟨m2, hle2, hr2⟩ := headOf_sound (O := mkO facts I) hr1 hhd
        have hmt := matched_of (O := mkO facts I) h2
        have hRe : m2.R = m.R := hle2.R.trans hle.R
        have hgo : Q (exOf e) a1 w1 := by
          have hin := @RS.into (mkO facts I) G m2 s2 a1 w1 _ τ ω (fun _ => none) I hG hr2 hmt (by rw [hRe]; exact fok τ)
          rw [h1] at hin
          have hcov : ∀ id, namesB L.T.ob id = true → namesB (L.pick b).2.1.ob id = true := fun id hid => by
            obtain ⟨b0, h0⟩ := namesB_iff.1 hid
            have := hok' b
            simp only [Tmpl.ok, Bool.and_eq_true] at this
            exact covers_get this.1.2 h0
          have hl2 := lle_inner (O := mkO facts I) (R' := m2.R.sub τ) hr2 hmt (hle.trans hle2) hcov
          rw [← hpick]
          refine hQ _ a1 w1 hl2 ?_ hin
          show m2.R.sub τ = _
          rw [hRe]
          unfold Rho.sub
          rw [hden]
        cases e with
        | normal => exact absurd rfl hne
        | exit id => exact hgo
        | ret => exact hgo
        | goto l => exact hgo
      · show Code.rounds P B Q N a1 w1
        simp only [Bool.and_eq_true, Nat.beq_eq] at hex
        obtain ⟨h1, h2⟩ := hex
        obtain ⟨m2, hle2, hr2⟩ := headOf_sound (O := mkO facts I) hr1 hhd
        have hmt := matched_of (O := mkO facts I) h2
        have hRe : m2.R = m.R := hle2.R.trans hle.R
        have hin := @RS.into (mkO facts I) G m2 s2 a1 w1 L.T τ ω (fun _ => none) I hG hr2 hmt (by rw [hRe]; exact fok τ)
        rw [h1] at hin
        have hlin := lle_inner (O := mkO facts I) (T := L.T) (R' := m2.R.sub τ) hr2 hmt (hle.trans hle2) (fun _ h => h)
        have hRs : (m2.inner (m2.R.sub τ) L.T ω w1).R = m.R.sub τ := by show m2.R.sub τ = _; rw [hRe]
        refine ih (m2.inner (m2.R.sub τ) L.T ω w1) a1 w1 Q (by rw [hRs]; exact hinv') (by rw [hRs]; omega) (fun _ h => h) (fun _ h => h) hin b (by rw [hRs, hc, hb]) ?_
        intro m' a' w' hle' hR' hr'
        refine hQ m' a' w' (hlin.trans hle') ?_ hr'
        rw [hR', hRs]
        have := hxs b hb
        unfold Rho.sub at this ⊢
        rw [this]
        rfl
  intro m a w Q hdom hres hr hpre b hb hQ
  exact wp_loop_rounds _ (main (μ m.R + 1) m a w Q (init m a w hr hpre) (Nat.lt_succ_self _) hdom hres hr b hb hQ)

/-- Leaves of a round. -/
noncomputable def eqEx : Ex → Ex → Bool
  | .exit a, .exit b => Nat.beq a b
  | .ret, .ret => true
  | _, _ => false
theorem eqEx_eq {a b : Ex} (h : eqEx a b = true) : a = b ∧ a ≠ .normal := by
  unfold eqEx at h
  split at h
  · rw [Nat.beq_eq] at h; exact ⟨by rw [h], by simp⟩
  · exact ⟨rfl, by simp⟩
  · cases h
noncomputable def atHead (T : Tmpl) (n : Nat) (τ : List SX) (s : St) : Bool :=
  match headOf T s with
  | some (ω, τ', s2) => eqSX.eqSXs τ' τ && (Nat.beq s2.n n && matchSt T ω τ' s2)
  | none => false
noncomputable def stepExit (L : LoopSp) (b : Bool) (τ : List SX) (o : Run) : Bool :=
  match o with
  | some (e', s1) => eqEx (L.pick b).1 e' && atHead (L.pick b).2.1 L.n τ s1
  | none => false
noncomputable def stepNext (L : LoopSp) (τ : List SX) (o : Run) : Bool :=
  match o with
  | some (.normal, s1) => atHead L.T L.n τ s1
  | _ => false
theorem atHead_spec {T : Tmpl} {n : Nat} {τ : List SX} {s : St} (h : atHead T n τ s = true) : ∃ ω s2, headOf T s = some (ω, τ, s2) ∧ (Nat.beq s2.n n && matchSt T ω τ s2) = true := by
  unfold atHead at h
  split at h
  · rename_i ω τ' s2 hh
    rw [Bool.and_eq_true] at h
    obtain rfl := eqSXs_eq h.1
    exact ⟨ω, s2, hh, h.2⟩
  · cases h
theorem StepOK.exit {run : List (SX × Bool) → St → Run} {L : LoopSp} {inv : Rho → Prop} {μ : Rho → Nat} {R : Rho} (b : Bool) (τ : List SX) (facts : List (SX × Bool)) (hc : stepExit L b τ (run facts (L.T.st L.n)) = true)
    (hf : ∀ p ∈ facts, den R p.1 = .bool p.2) (hb : den R L.cnd = .bool b) (hd : τ.map (den R) = (L.pick b).2.2.map (den R)) : StepOK I run L inv μ R := by
  unfold stepExit at hc
  split at hc
  · rename_i e' s1 hrun
    rw [Bool.and_eq_true] at hc
    obtain ⟨he, hne⟩ := eqEx_eq hc.1
    obtain ⟨ω, s2, h1, h2⟩ := atHead_spec hc.2
    exact ⟨facts, hf, e', s1, hrun, .inl ⟨b, ω, τ, s2, hb, he, he ▸ hne, h1, h2, hd⟩⟩
  · cases hc
theorem StepOK.next {run : List (SX × Bool) → St → Run} {L : LoopSp} {inv : Rho → Prop} {μ : Rho → Nat} {R : Rho} (τ : List SX) (facts : List (SX × Bool)) (hc : stepNext L τ (run facts (L.T.st L.n)) = true)
    (hf : ∀ p ∈ facts, den R p.1 = .bool p.2) (hi : inv (R.sub τ)) (hμ : μ (R.sub τ) < μ R) (hcnd : den (R.sub τ) L.cnd = den R L.cnd) (hx : ∀ b, den R L.cnd = .bool b → (L.pick b).2.2.map (den (R.sub τ)) = (L.pick b).2.2.map (den R)) : StepOK I run L inv μ R := by
  unfold stepNext at hc
  split at hc
  · rename_i s1 hrun
    obtain ⟨ω, s2, h1, h2⟩ := atHead_spec hc
    exact ⟨facts, hf, .normal, s1, hrun, .inr ⟨rfl, ω, τ, s2, h1, h2, hi, hμ, hcnd, hx⟩⟩
  · cases hc
end
end Go.AM
namespace Go.AM
open Go

/-! ## Loops by plans -/
inductive RPln where
  | ask (e : SX) (t f : RPln)
  | know (e : SX) (b : Bool) (p : RPln)
  | next (τ : List SX)
  | exit (b : Bool) (τ : List SX)
  | never

noncomputable def checkRound (L : LoopSp) (run : List (SX × Bool) → St → Run) : List (SX × Bool) → RPln → Bool
  | facts, .ask e t f => checkRound L run ((e, true) :: facts) t && checkRound L run ((e, false) :: facts) f
  | facts, .know e b p => checkRound L run ((e, b) :: facts) p
  | facts, .next τ => stepNext L τ (run facts (L.T.st L.n))
  | facts, .exit b τ => stepExit L b τ (run facts (L.T.st L.n))
  | _, .never => true

def goalRound (L : LoopSp) (inv : Rho → Prop) (μ : Rho → Nat) (R : Rho) : RPln → Prop
  | .ask e t f => (∃ b, den R e = .bool b) ∧ (den R e = .bool true → goalRound L inv μ R t) ∧ (den R e = .bool false → goalRound L inv μ R f)
  | .know e b p => den R e = .bool b ∧ goalRound L inv μ R p
  | .next τ => inv (R.sub τ) ∧ μ (R.sub τ) < μ R ∧ den (R.sub τ) L.cnd = den R L.cnd ∧ ∀ b, den R L.cnd = .bool b → (L.pick b).2.2.map (den (R.sub τ)) = (L.pick b).2.2.map (den R)
  | .exit b τ => den R L.cnd = .bool b ∧ τ.map (den R) = (L.pick b).2.2.map (den R)
  | .never => False

theorem round_ok {I : Nat → List DV → DV} {L : LoopSp} {run : List (SX × Bool) → St → Run} {inv : Rho → Prop} {μ : Rho → Nat} {R : Rho} : ∀ {p : RPln} {facts : List (SX × Bool)}, (∀ q ∈ facts, den R q.1 = .bool q.2) → checkRound L run facts p = true → goalRound L inv μ R p → StepOK I run L inv μ R
  | .ask e t f, facts, hf, hc, hg => by
    simp only [checkRound, Bool.and_eq_true] at hc
    obtain ⟨⟨b, hb⟩, h1, h2⟩ := hg
    cases b with
    | true => exact round_ok (facts := (e, true) :: facts) (fun q hq => by rcases List.mem_cons.1 hq with rfl | hq; exact hb; exact hf q hq) hc.1 (h1 hb)
    | false => exact round_ok (facts := (e, false) :: facts) (fun q hq => by rcases List.mem_cons.1 hq with rfl | hq; exact hb; exact hf q hq) hc.2 (h2 hb)
  | .know e b p, facts, hf, hc, hg => round_ok (facts := (e, b) :: facts) (fun q hq => by rcases List.mem_cons.1 hq with rfl | hq; exact hg.1; exact hf q hq) hc hg.2
  | .next τ, facts, hf, hc, hg => StepOK.next τ facts hc hf hg.1 hg.2.1 hg.2.2.1 hg.2.2.2
  | .exit b τ, facts, hf, hc, hg => StepOK.exit b τ facts hc hf hg.1 hg.2
  | .never, _, _, _, hg => hg.elim

section
variable {P : Program} {G : Nat → Option (List AV)} {I : Nat → List DV → DV} {spec : Orc → FuncId → Option (List AV → AHeap → Out)} {lps : Nat → List LoopSp}
/-- A LOOP's CONTRACT, by a plan of its round. -/
theorem loop_plan (hm : P.follows .mixedOrders = true) (hN : ∀ (f : FuncId) (fn : Func), P.funcs[f]? = some fn → (fn.name == "runtime.NumGoroutine") = false) (hsp : ∀ O : Orc, O.I = I → @SpecOK O P G (spec O)) (hG : PlainG G) (n : Nat) {B : Code} {L : LoopSp}
    {sub : FuncId → List (Nat → List LoopSp)} (hs : SubOK P G I sub) (hl : LoopsOK P G I lps B) (p : RPln) (hok : (L.yes.2.1.ok L.T L.n && L.no.2.1.ok L.T L.n && checkRound L (fun facts s => @codeM (mkO facts I) P G (spec (mkO facts I)) n sub lps B s) [] p) = true) (inv : Rho → Prop) (μ : Rho → Nat)
    (init : ∀ m a w, @RS (noFacts I) plainR m G (L.T.st L.n) a w → (∀ p ∈ L.pre, den m.R p.1 = .bool p.2) → inv m.R)
    (step : ∀ R, R.I = I → inv R → goalRound L inv μ R p) : LoopOK P G I B L := by
  rw [Bool.and_eq_true] at hok
  exact loop_ind hm hN hsp hG n hs hl hok.1 inv μ init fun R hI hinv => round_ok (facts := []) (by simp) hok.2 (step R hI hinv)
end

/-! ## What data is, without memory -/
def Is (t : Ty) (d : DV) : Prop := ∃ m v, Rep m t d v
theorem Is.int {k : IntKind} {d : DV} (h : Is (.int k) d) : ∃ z, d = .int k z ∧ k.min ≤ z ∧ z ≤ k.max := by
  obtain ⟨m, v, h⟩ := h
  simp only [Rep] at h
  obtain ⟨z, h1, _, h3, h4⟩ := h
  exact ⟨z, h1, h3, h4⟩
theorem Is.bool {d : DV} (h : Is .bool d) : ∃ b, d = .bool b := by
  obtain ⟨m, v, h⟩ := h
  simp only [Rep] at h
  obtain ⟨b, h1, _⟩ := h
  exact ⟨b, h1⟩
theorem Is.str {d : DV} (h : Is .str d) : ∃ s, d = .str s ∧ s.size ≤ maxLen := by
  obtain ⟨m, v, h⟩ := h
  simp only [Rep] at h
  obtain ⟨s, h1, _, h3⟩ := h
  exact ⟨s, h1, h3⟩
theorem repL_is {m : Env} {b : Nat} : ∀ {ts : List Ty} {ds : List DV} {o : Nat}, RepL m ts ds b o → ds.length = ts.length ∧ ∀ (j : Nat) (t : Ty) (d : DV), ts[j]? = some t → ds[j]? = some d → Is t d
  | [], ds, o, h => by simp only [RepL] at h; subst h; simp
  | t :: ts, ds, o, h => by
    simp only [RepL] at h
    obtain ⟨d, rest, v, rfl, _, h2, h3⟩ := h
    obtain ⟨q1, q2⟩ := repL_is h3
    refine ⟨by simp [q1], fun j t' d' h4 h5 => ?_⟩
    cases j with
    | zero =>
      simp only [List.getElem?_cons_zero, Option.some.injEq] at h4 h5
      subst h4 h5
      exact ⟨m, v, h2⟩
    | succ j => exact q2 j t' d' (by simpa using h4) (by simpa using h5)
theorem Is.list {ts : List Ty} {d : DV} (h : Is (.slice ts) d) : ∃ l, d = .list l ∧ l.length ≤ maxLen ∧ ∀ row ∈ l, row.length = ts.length ∧ ∀ (j : Nat) (t : Ty) (d : DV), ts[j]? = some t → row[j]? = some d → Is t d := by
  obtain ⟨m, v, h⟩ := h
  simp only [Rep] at h
  obtain ⟨l, a, c, h1, _, h3, h4, h5, h6⟩ := h
  refine ⟨l, h1, h4, fun row hrow => ?_⟩
  obtain ⟨j, hj⟩ := List.mem_iff_getElem?.1 hrow
  have hlt := (List.getElem?_eq_some_iff.1 hj).1
  rcases h6 with h6 | ⟨b, o, _, h7⟩
  · omega
  · exact repL_is (h7 j row hj)
theorem Is.u8 {d : DV} (h : Is (.int .u8) d) : ∃ b : UInt8, d = .int .u8 b.toNat := by
  obtain ⟨z, rfl, h2, h3⟩ := h.int
  have h4 : 0 ≤ z ∧ z < 256 := by simp [IntKind.min, IntKind.max, IntKind.signed, IntKind.bits] at h2 h3; omega
  have h5 : (UInt8.ofNat z.toNat).toNat = z.toNat % 256 := UInt8.toNat_ofNat'
  exact ⟨UInt8.ofNat z.toNat, by congr 1; omega⟩
/-- A byte, as data. -/
def dB (b : UInt8) : DV := .int .u8 b.toNat
/-- Bytes, as data. -/
def dBs (bs : List UInt8) : DV := .list (bs.map fun b => [dB b])
theorem Is.bytes {d : DV} (h : Is (.slice [.int .u8]) d) : ∃ bs : List UInt8, d = dBs bs ∧ bs.length ≤ maxLen := by
  obtain ⟨l, rfl, h2, h3⟩ := h.list
  obtain ⟨bs, rfl⟩ : ∃ bs : List UInt8, l = bs.map fun b => [dB b] := exists_map fun row hrow => by
    obtain ⟨q1, q2⟩ := h3 row hrow
    obtain ⟨d, rfl⟩ := List.length_eq_one_iff.1 (by simpa using q1 : row.length = 1)
    obtain ⟨b, rfl⟩ := (q2 0 _ d rfl rfl).u8
    exact ⟨b, rfl⟩
  exact ⟨bs, rfl, by simpa using h2⟩
section
variable {O : Orc} {G : Nat → Option (List AV)} {m : Env} {T : Tmpl} {n : Nat} {a : Act} {w : World}
theorem head_sy (hr : @RS O plainR m G (T.st n) a w) {t i : Nat} {ty : Ty} (h : (T.st n).tm.get t = some (.sy ty (.v i))) : Is ty (m.R.ρ i) := by
  have := hr.tm t
  rw [h] at this
  exact ⟨m, _, this⟩
theorem head_cell (hr : @RS O plainR m G (T.st n) a w) {id k i : Nat} {ty : Ty} {b : Blk} (h : (T.st n).h.t.get id = some (.blk b)) (hk : k < b.n) (hc : b.cell k = .sy ty (.v i)) : Is ty (m.R.ρ i) := by
  obtain ⟨_, _, c, _, _, h3, _⟩ := hr.h.obj id _ h
  obtain ⟨v, _, h4⟩ := h3 k hk
  rw [hc] at h4
  exact ⟨m, _, h4⟩
theorem is_own {h : AHeap} {id : Nat} {el : TypeId} {ts : List Ty} {e : SX} {v : Value} (hr : HR m h w) (hv : V m (.own id ts e) v) (hg : h.t.get id = some (.grow el ts e)) : Is (.slice ts) (den m.R e) := by
  obtain ⟨m2, l2, v2, _⟩ := iceOwn hr hv hg
  rw [← l2.R]
  exact ⟨m2, v, v2⟩
abbrev nilO : Orc := ⟨fun _ => none, fun _ _ => .bool false⟩
theorem rowsFlat {ts : List Ty} {b : Nat} : ∀ {l : List (List DV)} {c : List MapEntry}, KeysOK b ts l c → ∃ F : List Value, F.length = l.length * ts.length ∧ ∀ i row, l[i]? = some row → ∃ vs, rowVs ts row = some vs ∧ ∀ j v, vs[j]? = some v → F[i * ts.length + j]? = some v
  | [], [], _ => ⟨[], by simp, by simp⟩
  | r :: l, x :: c, h => by
    obtain ⟨F, h1, h2⟩ := rowsFlat h.2
    obtain ⟨vs, k1, _⟩ := h.1.1
    have hlen : vs.length = ts.length := by
      have : ∀ {ts : List Ty} {row : List DV} {vs : List Value}, rowVs ts row = some vs → vs.length = ts.length := by
        intro ts
        induction ts with
        | nil => intro row vs h; cases row <;> simp [rowVs] at h; simp [h]
        | cons t ts ih =>
          intro row vs h
          cases row with
          | nil => simp [rowVs] at h
          | cons d ds =>
            simp only [rowVs] at h
            split at h <;> (try (cases h; done))
            rename_i v us q1 q2
            cases h
            simp [ih q2]
      exact this k1
    refine ⟨vs ++ F, by simp [h1, hlen, Nat.add_mul]; omega, fun i row hi => ?_⟩
    cases i with
    | zero =>
      simp only [List.getElem?_cons_zero, Option.some.injEq] at hi
      subst hi
      refine ⟨vs, k1, fun j v hj => ?_⟩
      have := (List.getElem?_eq_some_iff.1 hj).1
      rw [Nat.zero_mul, Nat.zero_add, List.getElem?_append_left this]
      exact hj
    | succ i =>
      obtain ⟨us, g1, g2⟩ := h2 i row (by simpa using hi)
      refine ⟨us, g1, fun j v hj => ?_⟩
      rw [List.getElem?_append_right (by rw [hlen, Nat.add_mul]; omega), hlen, Nat.add_mul, Nat.one_mul]
      rw [show i * ts.length + ts.length + j - ts.length = i * ts.length + j by omega]
      exact g2 j v hj
  | [], _ :: _, h => h.elim
  | _ :: _, [], h => h.elim
theorem repL_of {m : Env} {F : Array Value} {el : TypeId} {b : Nat} (hE : m.E b = some (.cells F el (0, 0))) : ∀ {ts : List Ty} {row : List DV} {vs : List Value} {o : Nat}, rowVs ts row = some vs → (∀ j v, vs[j]? = some v → F[o + j]? = some v) → RepL m ts row b o
  | [], [], _, _, _, _ => by simp only [RepL]
  | t :: ts, d :: ds, vs, o, h, hF => by
    simp only [rowVs] at h
    split at h <;> (try (cases h; done))
    rename_i v us q1 q2
    cases h
    simp only [RepL]
    refine ⟨d, ds, v, rfl, ?_, rep_dvOf (O := nilO) q1, repL_of hE q2 fun j u hj => ?_⟩
    · simp only [Env.ecell, hE]
      exact hF 0 v rfl
    · rw [show o + 1 + j = o + (j + 1) by omega]
      exact hF (j + 1) u (by simpa using hj)
  | [], _ :: _, _, _, h, _ => by simp [rowVs] at h
  | _ :: _, [], _, _, h, _ => by simp [rowVs] at h
theorem is_map {h : AHeap} {id b : Nat} {ts : List Ty} {e : SX} {v : Value} (hr : HR m h w) (hv : V m (.hnd 2 id) v) (hg : h.t.get id = some (.grow b ts e)) : Is (.slice ts) (den m.R e) := by
  obtain ⟨⟨_, l, c, _, h1, h2, _, h3⟩, _⟩ := map_of (O := nilO) hr hv hg
  obtain ⟨F, _, f2⟩ := rowsFlat h3
  refine ⟨{ m with E := fun _ => some (.cells F.toArray 0 (0, 0)) }, .slice (some ⟨0, 0, none⟩) l.length l.length, ?_⟩
  rw [h1]
  simp only [Rep]
  refine ⟨l, _, _, rfl, rfl, Nat.le_refl _, h2, (fun e => by cases e), .inr ⟨0, 0, rfl, fun i row hi => ?_⟩⟩
  obtain ⟨vs, g1, g2⟩ := f2 i row hi
  exact repL_of rfl g1 fun j v hj => by rw [Nat.zero_add]; simpa using g2 j v hj
theorem head_own (hr : @RS O plainR m G (T.st n) a w) {t id i : Nat} {el : TypeId} {ts : List Ty} (h : (T.st n).tm.get t = some (.own id ts (.v i))) (hg : (T.st n).h.t.get id = some (.grow el ts (.v i))) : Is (.slice ts) (m.R.ρ i) := by
  have := hr.tm t
  rw [h] at this
  exact is_own hr.h this hg
theorem head_ownC (hr : @RS O plainR m G (T.st n) a w) {id k j i : Nat} {el : TypeId} {ts : List Ty} {b : Blk} (h : (T.st n).h.t.get id = some (.blk b)) (hk : k < b.n) (hc : b.cell k = .own j ts (.v i)) (hg : (T.st n).h.t.get j = some (.grow el ts (.v i))) : Is (.slice ts) (m.R.ρ i) := by
  obtain ⟨_, _, c, _, _, h3, _⟩ := hr.h.obj id _ h
  obtain ⟨v, _, h4⟩ := h3 k hk
  rw [hc] at h4
  exact is_own hr.h h4 hg
end
end Go.AM
namespace Go.AM
open Go

/-! ## Loops that leave by a panic, and functions of more than one deferred call -/
/-- A loop that panics, seen from a template: what is thrown is an error's number. -/
structure PanSp where
  n : Nat
  T : Tmpl
  pre : List (SX × Bool) := []
  Z : Tmpl
  nm : List SX
  t : TypeId
  k : IntKind
  e : SX
noncomputable def payA (t : TypeId) (k : IntKind) (e : SX) : AV := .ifc t (.agg [.sy (.int k) e])
theorem pay_V {m m' : Env} {t : TypeId} {k : IntKind} {e e' : SX} {v : Value} (h : den m.R e = den m'.R e') (hv : V m (payA t k e) v) : V m' (payA t k e') v := by
  simp only [payA, V, VL, Rep] at hv ⊢
  rw [← h]
  exact hv
noncomputable def isPay (t : TypeId) (k : IntKind) (a : AV) : Option SX :=
  match a with
  | .ifc t' (.agg [.sy (.int k') e]) => match Nat.beq t' t && eqK k' k with
    | true => some e
    | false => none
  | _ => none
theorem isPay_eq {t : TypeId} {k : IntKind} {a : AV} {e : SX} (h : isPay t k a = some e) : a = payA t k e := by
  unfold isPay at h
  split at h
  · split at h
    · rename_i hc
      rw [Bool.and_eq_true, Nat.beq_eq] at hc
      obtain ⟨rfl, hk⟩ := hc
      obtain rfl := eqK_eq hk
      cases h
      rfl
    · cases h
  · cases h
noncomputable def runPan [O : Orc] (L : PanSp) (s : St) : Option (AV × St) :=
  match headOf L.T s with
  | none => none
  | some (ω, τ, s1) => match Nat.beq s1.n L.n && matchSt L.T ω τ s1 && allKnown τ L.pre with
    | false => none
    | true => match Tmpl.ok L.Z L.T s1.n with
      | false => none
      | true => some (payA L.t L.k (subst τ L.e), L.Z.outer ω (L.nm.map (subst τ)) s1)
/-- WHAT A LOOP THAT PANICS DOES. -/
def LoopPOK (P : Program) (G : Nat → Option (List AV)) (I : Nat → List DV → DV) (body : Code) (L : PanSp) : Prop :=
  ∀ (m : Env) (a : Act) (w : World) (Q : Exit → Act → World → Prop), (∀ id, m.dom id → namesB L.T.ob id = true ∨ namesO L.T.ow id = true) → (∀ id, ¬ m.res id) → @RS (noFacts I) plainR m G (L.T.st L.n) a w →
    (∀ p ∈ L.pre, den m.R p.1 = .bool p.2) →
    (∀ m' a' w' v, m.lle (namesB L.T.ob) m' → m'.R = m.R.sub L.nm → @RS (noFacts I) plainR m' G (L.Z.st L.n) a' w' → V m (payA L.t L.k L.e) v → Q (.panic [pent v]) a' w') → (Code.loop body).wp P Q a w

section
variable [O : Orc] {G : Nat → Option (List AV)}
theorem runPan_sound {P : Program} {body : Code} {L : PanSp} (hG : PlainG G) (hL : LoopPOK P G O.I body L) {m : Env} {s s' : St} {x : AV} {a : Act} {w : World} {Q : Exit → Act → World → Prop}
    (hr : @RS O plainR m G s a w) (h : runPan L s = some (x, s')) (hQ : ∀ m' a' w' v, m.le m' → @RS O plainR m' G s' a' w' → V m' x v → Q (.panic [pent v]) a' w') : (Code.loop body).wp P Q a w := by
  unfold runPan at h
  split at h <;> (try (cases h; done))
  rename_i ω τ s1 hh
  split at h <;> (try (cases h; done))
  rename_i hm
  simp only [Bool.and_eq_true, Nat.beq_eq] at hm
  obtain ⟨⟨hn, hm1⟩, hm2⟩ := hm
  split at h <;> (try (cases h; done))
  rename_i hok
  simp only [Option.some.injEq, Prod.mk.injEq] at h
  obtain ⟨rfl, rfl⟩ := h
  obtain ⟨m1, hle1, hr1⟩ := headOf_sound hr hh
  have hmt := matched_of hm1
  have hin := RS.into (O := O) (l2 := fun _ => none) (I2 := O.I) hG hr1 hmt (by rw [← hr1.g.f.1]; exact noFacts_ok (m1.R.sub τ))
  rw [hn] at hin
  refine hL (m1.inner (m1.R.sub τ) L.T ω w) a w Q (fun _ h => h) (fun _ h => h) hin (allKnown_sound hr1.g.f hm2) ?_
  intro m' a' w' v hle hR hr' hv
  have hR' : m'.R = m1.R.sub (L.nm.map (subst τ)) := by rw [hR, ← sub_sub]; rfl
  obtain ⟨g1, g2⟩ := RS.outof (O := O) (l2 := fun _ => none) (I2 := O.I) hr1 hmt hok hle (by rw [hn]; exact hr') hR'
  refine hQ _ a' w' v (hle1.trans g1) g2 (pay_V ?_ hv)
  rw [g1.R, den_subst]
  rfl
end

section
variable [O : Orc] (P : Program) (G : Nat → Option (List AV)) (spec : FuncId → Option (List AV → AHeap → Out)) (n : Nat)
noncomputable def codePL (pc : PCall) (lp : Nat → List PanSp) : Code → St → Option (AV × St)
  | .region _ ops false, s => opsP P G spec n pc ops ops.toList s
  | .region _ ops true, s => drawPan P G (callsL P G spec n) pc ops s
  | .seq a b, s => match runA P G spec n a s with
    | some (.normal, s') => codePL pc lp b s'
    | some _ => none
    | none => codePL pc lp a s
  | .cond c a b, s => match resB (St.ev G s.tm c) with
    | .sc (.bool true) => codePL pc lp a s
    | .sc (.bool false) => codePL pc lp b s
    | _ => none
  | .block _ a, s => codePL pc lp a s
  | .loop a, s => firstO (lp (key a)) fun L => runPan L s
  | _, _ => none
variable (lpp : FuncId → Nat → List PanSp)
noncomputable def enterPL : Nat → PCall
  | 0, _, _, _ => none
  | k + 1, f, args, h => match Nat.beq f yid with
    | true => none
    | false => match P.funcs[f]? with
    | none => none
    | some fn => match fn.body with
      | none => none
      | some c => match codePL P G spec n (enterPL k) (lpp f) c { tm := argsTr 0 args .nil, n := Nat.max args.length fn.ntmps, h } with
        | some (x, s) => match s.df with
          | some [] => some (x, s.h)
          | _ => none
        | none => none
/-- A call of a function whose body panics, and whose last deferred function recovers. -/
noncomputable def recL (k : Nat) (f : FuncId) (args : List AV) (h : AHeap) : Out :=
  match Nat.beq f yid with
  | true => none
  | false => match P.funcs[f]? with
  | none => none
  | some fn => match fn.body with
    | none => none
    | some c => match codePL P G spec n (enterPL P G spec n lpp k) (lpp f) c { tm := argsTr 0 args .nil, n := Nat.max args.length fn.ntmps, h } with
      | some (x, s) => match s.df with
        | some (.fn g as :: l) => match enterQ P G spec n g as x s.h with
          | none => none
          | some h1 => match leaveA P (codeD P G (runA P G spec n)) l h1 with
            | none => none
            | some h' => match resultsA P s.tm h' fn.results.toList with
              | some [v] => some (v, h')
              | some vs => some (.tup vs, h')
              | none => none
        | _ => none
      | none => none
end

section
variable [O : Orc] {P : Program} {G : Nat → Option (List AV)} {spec : FuncId → Option (List AV → AHeap → Out)} {n : Nat}
/-- The panicking loops of a text that have contracts. -/
def LoopsPOK (P : Program) (G : Nat → Option (List AV)) (I : Nat → List DV → DV) (lp : Nat → List PanSp) (c : Code) : Prop := ∀ B ∈ loopsIn c, ∀ L, L ∈ lp (key B) → LoopPOK P G I B L

variable (hrun : ∀ (c : Code) (m : Env) (s s' : St) (e : Ex) (a : Act) (w : World) (Q : Exit → Act → World → Prop), @RS O plainR m G s a w → runA P G spec n c s = some (e, s') → (∀ m' a' w', m.le m' → @RS O plainR m' G s' a' w' → Q (exOf e) a' w') → c.wp P Q a w)
include hrun
theorem codePL_sound (hm : P.follows .mixedOrders = true) (hG : PlainG G) (hcl : CallRK P G (callsL P G spec n)) {pc : PCall} (hpc : PCallOK P G pc) {lp : Nat → List PanSp} : ∀ (c : Code), LoopsPOK P G O.I lp c → ∀ (m : Env) (s s' : St) (x : AV) (a : Act) (w : World) (Q : Exit → Act → World → Prop), @RS O plainR m G s a w → codePL P G spec n pc lp c s = some (x, s') →
    (∀ m' a' w' v, m.le m' → @RS O plainR m' G s' a' w' → V m' x v → Q (.panic [pent v]) a' w') → c.wp P Q a w := by
  intro c
  induction c with
  | region id ops draw =>
    intro hl m s s' x a w Q hr h hQ
    cases draw with
    | false =>
      simp only [codePL] at h
      exact wpIn_wide.1 (wpIn_region_list (opsP_sound hcl hpc ops.toList m s s' x a w hr h hQ))
    | true =>
      simp only [codePL] at h
      exact wpIn_wide.1 (drawPan_sound hm hcl hpc hr h hQ)
  | seq b c ihb ihc =>
    intro hl m s s' x a w Q hr h hQ
    simp only [codePL] at h
    split at h
    · rename_i s1 h1
      refine wp_seq (hrun b m s s1 .normal a w _ hr h1 fun m1 a1 w1 g1 r1 => ?_)
      exact ihc (fun B hB => hl B (by simp [loopsIn, hB])) m1 s1 s' x a1 w1 Q r1 h fun m2 a2 w2 v g2 r2 k2 => hQ m2 a2 w2 v (g1.trans g2) r2 k2
    · cases h
    · refine wp_seq (ihb (fun B hB => hl B (by simp [loopsIn, hB])) m s s' x a w _ hr h fun m1 a1 w1 v g1 r1 k1 => ?_)
      exact hQ m1 a1 w1 v g1 r1 k1
  | cond c b d ihb ihd =>
    intro hl m s s' x a w Q hr h hQ
    letI : Rnd := plainR
    simp only [codePL] at h
    have hv := resB_sound hr.g.f (hr.ev c)
    split at h
    · rename_i ec
      rw [ec] at hv
      simp only [V] at hv
      exact wp_cond_true hv (ihb (fun B hB => hl B (by simp [loopsIn, hB])) m s s' x a w Q hr h hQ)
    · rename_i ec
      rw [ec] at hv
      simp only [V] at hv
      exact wp_cond_false hv (ihd (fun B hB => hl B (by simp [loopsIn, hB])) m s s' x a w Q hr h hQ)
    · cases h
  | block id b ih =>
    intro hl m s s' x a w Q hr h hQ
    simp only [codePL] at h
    refine wp_block (ih (fun B hB => hl B (by simpa [loopsIn] using hB)) m s s' x a w _ hr h fun m1 a1 w1 v g1 r1 k1 => ?_)
    exact hQ m1 a1 w1 v g1 r1 k1
  | loop b ih =>
    intro hl m s s' x a w Q hr h hQ
    simp only [codePL] at h
    obtain ⟨L, hm, h⟩ := firstO_some h
    exact runPan_sound hG (hl b (by simp [loopsIn]) L hm) hr h hQ
  | _ => intro hl m s s' x a w Q hr h hQ; simp [codePL] at h

/-- The panicking loops of functions have their contracts. -/
def SubPOK (P : Program) (G : Nat → Option (List AV)) (I : Nat → List DV → DV) (lpp : FuncId → Nat → List PanSp) : Prop :=
  ∀ f fn c, P.funcs[f]? = some fn → fn.body = some c → LoopsPOK P G I (lpp f) c

theorem enterPL_sound (hm : P.follows .mixedOrders = true) (hG : PlainG G) (hN : ∀ (f : FuncId) (fn : Func), P.funcs[f]? = some fn → (fn.name == "runtime.NumGoroutine") = false) (hcl : CallRK P G (callsL P G spec n)) {lpp : FuncId → Nat → List PanSp} (hs : SubPOK P G O.I lpp) : ∀ k, PCallOK P G (enterPL P G spec n lpp k)
  | 0 => fun f args h x h' hq => by simp [enterPL] at hq
  | k + 1 => fun f args h x h' hq => by
    have ih := enterPL_sound hm hG hN hcl hs k
    simp only [enterPL] at hq
    split at hq
    · cases hq
    rename_i hy
    have hne := Nat.ne_of_beq_eq_false hy
    split at hq
    · cases hq
    rename_i fn hf
    split at hq
    · cases hq
    rename_i c hb
    split at hq
    · rename_i y s hss
      split at hq
      · rename_i hdf
        cases hq
        refine ⟨⟨fn, hf, by rw [hb]; rfl, hN f fn hf, hne⟩, fun m vs w hl hr hg => ?_⟩
        refine callsIn_wide.1 (callsIn_of_wp_marks (n := 0) hf hb trivial (wpIn_wide.2 ?_))
        have hrs := @rs_enter O G ⟨none⟩ m fn args vs h w rfl hl hr hg
        refine codePL_sound hrun hm hG hcl ih c (hs f fn c hf hb) m _ s x _ w _ hrs hss fun m' a' w' v hm hr' hv => ?_
        show LeavesInM Fence.wide 0 P fn a'.tmps _ a'.defers (.panicking [pent v]) w'
        have hd := hr'.defers
        rw [hdf] at hd
        have hd : a'.defers = [] := hd
        rw [hd]
        exact ⟨v, m', rfl, hm, hv, hr'.h⟩
      · cases hq
    · cases hq

/-- A CALL OF A FUNCTION THAT RECOVERS, and then does what else is deferred. -/
theorem recL_ok (hm : P.follows .mixedOrders = true) (hG : PlainG G) (hN : ∀ (f : FuncId) (fn : Func), P.funcs[f]? = some fn → (fn.name == "runtime.NumGoroutine") = false) (hcl : CallRK P G (callsL P G spec n)) (hD : RunDOK P G (codeD P G (runA P G spec n))) {lpp : FuncId → Nat → List PanSp} (hs : SubPOK P G O.I lpp) (k : Nat) : CallOK P G (recL P G spec n lpp k) := by
  intro f args h av h' hq
  unfold recL at hq
  split at hq
  · cases hq
  rename_i hy
  have hne := Nat.ne_of_beq_eq_false hy
  split at hq
  · cases hq
  rename_i fn hf
  split at hq
  · cases hq
  rename_i c hb
  split at hq
  · rename_i x s hss
    split at hq
    · rename_i g as l hdf
      split at hq
      · cases hq
      rename_i h1 hen
      split at hq
      · cases hq
      rename_i h2 hlv
      refine ⟨⟨fn, hf, by rw [hb]; rfl, hN f fn hf, hne⟩, fun m vs w hl hr hg => ?_⟩
      refine callsIn_wide.1 (callsIn_of_wp_marks (n := 0) hf hb trivial (wpIn_wide.2 ?_))
      have hrs := @rs_enter O G ⟨none⟩ m fn args vs h w rfl hl hr hg
      refine codePL_sound hrun hm hG hcl (enterPL_sound hrun hm hG hN hcl hs k) c (hs f fn c hf hb) m _ s x _ w _ hrs hss fun m' a' w' v hm hr' hv => ?_
      show LeavesInM Fence.wide 0 P fn a'.tmps _ a'.defers (.panicking [pent v]) w'
      obtain ⟨z1, z2, z3, z4, z5, z6⟩ := hr'
      rw [hdf] at z3
      simp only [DRo, DRs] at z3
      obtain ⟨y, ys, hds, ⟨cap, as', rfl, hvl⟩, hys⟩ := z3
      rw [hds]
      obtain ⟨⟨fn', hf', hbody⟩, hcall⟩ := enterQ_sound hrun hen hvl hv z5 z6
      refine ⟨by simp, .inr ⟨fun h => (by cases h), _, cap, g, as' ++ cap, rfl, ?_, fun _ _ => trivial, hcall.mono ?_⟩⟩
      · show (callFunc g (as' ++ cap)).run P w' = _
        unfold callFunc
        rw [Sem.run_bind]
        simp only [run_program, Result.andThen_ok, hf', hN g fn' hf', hbody, Bool.false_eq_true, if_false]
        rfl
      · rintro e u' w2 ⟨rfl, v2, m2, rfl, hm2, hr2⟩
        show LeavesInM Fence.wide 0 P fn a'.tmps _ ys (settle (.panicking [{ v := v, recovered := true }])) w2
        show LeavesInM Fence.wide 0 P fn a'.tmps _ ys .returning w2
        refine leave_sound hN hD l ys m2 h1 h2 w2 hlv (DRs.wmono hm2.towle _ _ hys) hr2 (z6.mono hm2) fun m3 w3 hm3 hr3 => ?_
        have z2' : ∀ t, V m3 ((s.tm.get t).getD (.sc undef)) (a'.tmps.getD t undef) := fun t => V.mono (hm2.trans hm3) _ _ (z2 t)
        split at hq
        · rename_i v3 hres
          simp only [Option.some.injEq, Prod.mk.injEq] at hq
          obtain ⟨rfl, rfl⟩ := hq
          obtain ⟨us, g1, g2⟩ := results_sound (P := P) z2' hr3 _ _ hres
          simp only [VL] at g1
          obtain ⟨u, us', rfl, hu, rfl⟩ := g1
          exact ⟨u, run_results g2, u, m3, rfl, hm.trans (hm2.trans hm3), hu, hr3⟩
        · rename_i avs hne hres
          simp only [Option.some.injEq, Prod.mk.injEq] at hq
          obtain ⟨rfl, rfl⟩ := hq
          obtain ⟨us, g1, g2⟩ := results_sound (P := P) z2' hr3 _ _ hres
          have hne' : ∀ u, us ≠ [u] := by
            intro u e
            have := VL_length g1
            rw [e] at this
            simp at this
            obtain ⟨x, hx⟩ := List.length_eq_one_iff.1 this.symm
            exact hne x (by rw [hx])
          refine ⟨.tuple us.toArray, ?_, _, m3, rfl, hm.trans (hm2.trans hm3), by simp only [V]; exact ⟨_, rfl, g1⟩, hr3⟩
          rw [run_results g2]
          cases us with
          | nil => rfl
          | cons u l => cases l with
            | nil => exact absurd rfl (hne' u)
            | cons v l => rfl
        · cases hq
    · cases hq
  · cases hq
end

section
variable {P : Program} {G : Nat → Option (List AV)} {I : Nat → List DV → DV}
/-- One round of a loop that panics in the end. -/
def StepPOK (I : Nat → List DV → DV) (run : List (SX × Bool) → St → Run) (runP : List (SX × Bool) → St → Option (AV × St)) (L : PanSp) (inv : Rho → Prop) (μ : Rho → Nat) (R : Rho) : Prop :=
  ∃ facts : List (SX × Bool), (∀ p ∈ facts, den R p.1 = .bool p.2) ∧
    ((∃ x s1 e ω τ s2, runP facts (L.T.st L.n) = some (x, s1) ∧ isPay L.t L.k x = some e ∧ headOf L.Z s1 = some (ω, τ, s2) ∧ (Nat.beq s2.n L.n && matchSt L.Z ω τ s2) = true ∧ τ.map (den R) = L.nm.map (den R) ∧ den R e = den R L.e) ∨
     (∃ s1 ω τ s2, run facts (L.T.st L.n) = some (.normal, s1) ∧ headOf L.T s1 = some (ω, τ, s2) ∧ (Nat.beq s2.n L.n && matchSt L.T ω τ s2) = true ∧ inv (R.sub τ) ∧ μ (R.sub τ) < μ R ∧ L.nm.map (den (R.sub τ)) = L.nm.map (den R) ∧ den (R.sub τ) L.e = den R L.e))

variable {spec : Orc → FuncId → Option (List AV → AHeap → Out)} {lps : Nat → List LoopSp}
/-- A PANICKING LOOP's CONTRACT, by its rounds. -/
theorem loopP_ind (hm : P.follows .mixedOrders = true) (hN : ∀ (f : FuncId) (fn : Func), P.funcs[f]? = some fn → (fn.name == "runtime.NumGoroutine") = false) (hsp : ∀ O : Orc, O.I = I → @SpecOK O P G (spec O)) (hG : PlainG G) (n : Nat) {B : Code} {L : PanSp}
    {sub : FuncId → List (Nat → List LoopSp)} (hs : SubOK P G I sub) (hl : LoopsOK P G I lps B) {lpp : FuncId → Nat → List PanSp} (hsp2 : SubPOK P G I lpp) {lp : Nat → List PanSp} (hlp : LoopsPOK P G I lp B) (k : Nat) (hok : L.Z.ok L.T L.n = true) (inv : Rho → Prop) (μ : Rho → Nat)
    (init : ∀ m a w, @RS (noFacts I) plainR m G (L.T.st L.n) a w → (∀ p ∈ L.pre, den m.R p.1 = .bool p.2) → inv m.R)
    (step : ∀ R, R.I = I → inv R → StepPOK I (fun facts s => @codeM (mkO facts I) P G (spec (mkO facts I)) n sub lps B s) (fun facts s => @codePL (mkO facts I) P G (spec (mkO facts I)) n (@enterPL (mkO facts I) P G (spec (mkO facts I)) n lpp k) lp B s) L inv μ R) : LoopPOK P G I B L := by
  have main : ∀ (N : Nat) (m : Env) (a : Act) (w : World) (Q : Exit → Act → World → Prop), inv m.R → μ m.R < N → (∀ id, m.dom id → namesB L.T.ob id = true ∨ namesO L.T.ow id = true) → (∀ id, ¬ m.res id) → @RS (noFacts I) plainR m G (L.T.st L.n) a w →
      (∀ m' a' w' v, m.lle (namesB L.T.ob) m' → m'.R = m.R.sub L.nm → @RS (noFacts I) plainR m' G (L.Z.st L.n) a' w' → V m (payA L.t L.k L.e) v → Q (.panic [pent v]) a' w') → Code.rounds P B Q N a w := by
    intro N
    induction N with
    | zero => intro m a w Q _ h; omega
    | succ N ih =>
      intro m a w Q hinv hμ hdom hres hr hQ
      rw [rounds_succ]
      have hRI : m.R.I = I := by obtain ⟨_, _, _, _, _, _, y, _⟩ := hr; exact y
      obtain ⟨facts, hf, hcase⟩ := step m.R hRI hinv
      obtain ⟨z1, z2, z3, zr, z4, z5, _⟩ := hr
      have hr2 : @RS (mkO facts I) plainR m G (L.T.st L.n) a w := @RS.mk (mkO facts I) plainR _ _ _ _ _ z1 z2 z3 zr z4 (@GOK.mk (mkO facts I) _ _ z5 (mkO_ok hRI hf))
      have fok : ∀ τ, @FactsOK (noFacts I) (m.R.sub τ) := fun τ => by
        have := noFacts_ok (m.R.sub τ)
        rw [show (m.R.sub τ).I = I from hRI] at this
        exact this
      rcases hcase with ⟨x, s1, e, ω, τ, s2, hrun, hpay, hhd, hex, hden, hde⟩ | ⟨s1, ω, τ, s2, hrun, hhd, hex, hinv', hμ', hxs, hes⟩
      · letI : Orc := mkO facts I
        have hrunS : ∀ (c : Code) (m : Env) (s s' : St) (e : Ex) (a : Act) (w : World) (Q : Exit → Act → World → Prop), @RS (mkO facts I) plainR m G s a w → runA P G (spec (mkO facts I)) n c s = some (e, s') → (∀ m' a' w', m.le m' → @RS (mkO facts I) plainR m' G s' a' w' → Q (exOf e) a' w') → c.wp P Q a w :=
          fun c m s s' e a w Q hr h hQ => wpIn_wide.1 (run_sound hN (hsp _ rfl) (fun _ _ h => draw_sound hm h) n plainR c m s s' e a w Q hr h hQ).1
        have hcl := callsL_ok hm hN (hsp (mkO facts I) rfl) n
        refine codePL_sound hrunS hm hG hcl (enterPL_sound hrunS hm hG hN hcl hsp2 k) B hlp m _ s1 x a w _ hr2 hrun ?_
        intro m1 a1 w1 v hle hr1 hv
        show Q (.panic [pent v]) a1 w1
        simp only [Bool.and_eq_true, Nat.beq_eq] at hex
        obtain ⟨h1, h2⟩ := hex
        obtain ⟨m2, hle2, hr2⟩ := headOf_sound (O := mkO facts I) hr1 hhd
        have hmt := matched_of (O := mkO facts I) h2
        have hRe : m2.R = m.R := hle2.R.trans hle.R
        have hin := @RS.into (mkO facts I) G m2 s2 a1 w1 _ τ ω (fun _ => none) I hG hr2 hmt (by rw [hRe]; exact fok τ)
        rw [h1] at hin
        have hcov : ∀ id, namesB L.T.ob id = true → namesB L.Z.ob id = true := fun id hid => by
          obtain ⟨b0, h0⟩ := namesB_iff.1 hid
          have := hok
          simp only [Tmpl.ok, Bool.and_eq_true] at this
          exact covers_get this.1.2 h0
        have hl2 := lle_inner (O := mkO facts I) (R' := m2.R.sub τ) hr2 hmt (hle.trans hle2) hcov
        have hRs : m2.R.sub τ = m.R.sub L.nm := by
          rw [hRe]
          unfold Rho.sub
          rw [hden]
        refine hQ _ a1 w1 v hl2 hRs hin ?_
        obtain rfl := isPay_eq hpay
        refine pay_V ?_ hv
        show den m1.R e = den m.R L.e
        rw [hle.R, hde]
      · refine @codeM_sound (mkO facts I) P G (spec (mkO facts I)) lps hm hN (hsp _ rfl) hG n sub hs B hl m _ s1 .normal a w _ hr2 hrun ?_
        intro m1 a1 w1 hle hr1
        show Code.rounds P B Q N a1 w1
        simp only [Bool.and_eq_true, Nat.beq_eq] at hex
        obtain ⟨h1, h2⟩ := hex
        obtain ⟨m2, hle2, hr2⟩ := headOf_sound (O := mkO facts I) hr1 hhd
        have hmt := matched_of (O := mkO facts I) h2
        have hRe : m2.R = m.R := hle2.R.trans hle.R
        have hin := @RS.into (mkO facts I) G m2 s2 a1 w1 L.T τ ω (fun _ => none) I hG hr2 hmt (by rw [hRe]; exact fok τ)
        rw [h1] at hin
        have hlin := lle_inner (O := mkO facts I) (T := L.T) (R' := m2.R.sub τ) hr2 hmt (hle.trans hle2) (fun _ h => h)
        have hRs : (m2.inner (m2.R.sub τ) L.T ω w1).R = m.R.sub τ := by show m2.R.sub τ = _; rw [hRe]
        refine ih (m2.inner (m2.R.sub τ) L.T ω w1) a1 w1 Q (by rw [hRs]; exact hinv') (by rw [hRs]; omega) (fun _ h => h) (fun _ h => h) hin ?_
        intro m' a' w' v hle' hR' hr' hv
        refine hQ m' a' w' v (hlin.trans hle') ?_ hr' (pay_V ?_ hv)
        · rw [hR', hRs]
          unfold Rho.sub at hxs ⊢
          rw [hxs]
          rfl
        · rw [hRs, hes]
  intro m a w Q hdom hres hr hpre hQ
  exact wp_loop_rounds _ (main (μ m.R + 1) m a w Q (init m a w hr hpre) (Nat.lt_succ_self _) hdom hres hr hQ)

/-! ## Plans of such rounds -/
inductive PPln where
  | ask (e : SX) (t f : PPln)
  | know (e : SX) (b : Bool) (p : PPln)
  | next (τ : List SX)
  | pan (τ : List SX) (e : SX)
  | never
noncomputable def stepPan (L : PanSp) (τ : List SX) (e : SX) (o : Option (AV × St)) : Bool :=
  match o with
  | some (x, s1) => (match isPay L.t L.k x with
    | some e' => eqSX e' e
    | none => false) && atHead L.Z L.n τ s1
  | none => false
noncomputable def stepNextP (L : PanSp) (τ : List SX) (o : Run) : Bool :=
  match o with
  | some (.normal, s1) => atHead L.T L.n τ s1
  | _ => false
noncomputable def checkRoundP (L : PanSp) (run : List (SX × Bool) → St → Run) (runP : List (SX × Bool) → St → Option (AV × St)) : List (SX × Bool) → PPln → Bool
  | facts, .ask e t f => checkRoundP L run runP ((e, true) :: facts) t && checkRoundP L run runP ((e, false) :: facts) f
  | facts, .know e b p => checkRoundP L run runP ((e, b) :: facts) p
  | facts, .next τ => stepNextP L τ (run facts (L.T.st L.n))
  | facts, .pan τ e => stepPan L τ e (runP facts (L.T.st L.n))
  | _, .never => true
def goalRoundP (L : PanSp) (inv : Rho → Prop) (μ : Rho → Nat) (R : Rho) : PPln → Prop
  | .ask e t f => (∃ b, den R e = .bool b) ∧ (den R e = .bool true → goalRoundP L inv μ R t) ∧ (den R e = .bool false → goalRoundP L inv μ R f)
  | .know e b p => den R e = .bool b ∧ goalRoundP L inv μ R p
  | .next τ => inv (R.sub τ) ∧ μ (R.sub τ) < μ R ∧ L.nm.map (den (R.sub τ)) = L.nm.map (den R) ∧ den (R.sub τ) L.e = den R L.e
  | .pan τ e => τ.map (den R) = L.nm.map (den R) ∧ den R e = den R L.e
  | .never => False
theorem roundP_ok {I : Nat → List DV → DV} {L : PanSp} {run : List (SX × Bool) → St → Run} {runP : List (SX × Bool) → St → Option (AV × St)} {inv : Rho → Prop} {μ : Rho → Nat} {R : Rho} : ∀ {p : PPln} {facts : List (SX × Bool)}, (∀ q ∈ facts, den R q.1 = .bool q.2) → checkRoundP L run runP facts p = true → goalRoundP L inv μ R p → StepPOK I run runP L inv μ R
  | .ask e t f, facts, hf, hc, hg => by
    simp only [checkRoundP, Bool.and_eq_true] at hc
    obtain ⟨⟨b, hb⟩, h1, h2⟩ := hg
    cases b with
    | true => exact roundP_ok (facts := (e, true) :: facts) (fun q hq => by rcases List.mem_cons.1 hq with rfl | hq; exact hb; exact hf q hq) hc.1 (h1 hb)
    | false => exact roundP_ok (facts := (e, false) :: facts) (fun q hq => by rcases List.mem_cons.1 hq with rfl | hq; exact hb; exact hf q hq) hc.2 (h2 hb)
  | .know e b p, facts, hf, hc, hg => roundP_ok (facts := (e, b) :: facts) (fun q hq => by rcases List.mem_cons.1 hq with rfl | hq; exact hg.1; exact hf q hq) hc hg.2
  | .next τ, facts, hf, hc, hg => by
    simp only [checkRoundP] at hc
    unfold stepNextP at hc
    split at hc
    · rename_i s1 hrun
      obtain ⟨ω, s2, h1, h2⟩ := atHead_spec hc
      exact ⟨facts, hf, .inr ⟨s1, ω, τ, s2, hrun, h1, h2, hg⟩⟩
    · cases hc
  | .pan τ e, facts, hf, hc, hg => by
    simp only [checkRoundP] at hc
    unfold stepPan at hc
    split at hc
    · rename_i x s1 hrun
      rw [Bool.and_eq_true] at hc
      obtain ⟨hp, hh⟩ := hc
      split at hp
      · rename_i e' he
        obtain rfl := eqSX_eq hp
        obtain ⟨ω, s2, h1, h2⟩ := atHead_spec hh
        exact ⟨facts, hf, .inl ⟨x, s1, e', ω, τ, s2, hrun, he, h1, h2, hg⟩⟩
      · cases hp
    · cases hc
  | .never, _, _, _, hg => hg.elim
/-- A PANICKING LOOP's CONTRACT, by a plan of its round. -/
theorem loopP_plan (hm : P.follows .mixedOrders = true) (hN : ∀ (f : FuncId) (fn : Func), P.funcs[f]? = some fn → (fn.name == "runtime.NumGoroutine") = false) (hsp : ∀ O : Orc, O.I = I → @SpecOK O P G (spec O)) (hG : PlainG G) (n : Nat) {B : Code} {L : PanSp}
    {sub : FuncId → List (Nat → List LoopSp)} (hs : SubOK P G I sub) (hl : LoopsOK P G I lps B) {lpp : FuncId → Nat → List PanSp} (hsp2 : SubPOK P G I lpp) {lp : Nat → List PanSp} (hlp : LoopsPOK P G I lp B) (k : Nat) (p : PPln)
    (hok : (L.Z.ok L.T L.n && checkRoundP L (fun facts s => @codeM (mkO facts I) P G (spec (mkO facts I)) n sub lps B s) (fun facts s => @codePL (mkO facts I) P G (spec (mkO facts I)) n (@enterPL (mkO facts I) P G (spec (mkO facts I)) n lpp k) lp B s) [] p) = true) (inv : Rho → Prop) (μ : Rho → Nat)
    (init : ∀ m a w, @RS (noFacts I) plainR m G (L.T.st L.n) a w → (∀ p ∈ L.pre, den m.R p.1 = .bool p.2) → inv m.R)
    (step : ∀ R, R.I = I → inv R → goalRoundP L inv μ R p) : LoopPOK P G I B L := by
  rw [Bool.and_eq_true] at hok
  exact loopP_ind hm hN hsp hG n hs hl hsp2 hlp k hok.1 inv μ init fun R hI hinv => roundP_ok (facts := []) (by simp) hok.2 (step R hI hinv)
end

section
variable [O : Orc] {P : Program} {G : Nat → Option (List AV)} {spec : FuncId → Option (List AV → AHeap → Out)} {lps : Nat → List LoopSp}
open Classical in
theorem enterCD_ok {call : CallF} (hm : P.follows .mixedOrders = true) (hN : ∀ (f : FuncId) (fn : Func), P.funcs[f]? = some fn → (fn.name == "runtime.NumGoroutine") = false) (hsp : SpecOK P G spec) (hG : PlainG G) (n : Nat) (hc : CallRK P G call) (f : FuncId)
    (hl : ∀ fn c, P.funcs[f]? = some fn → fn.body = some c → LoopsOK P G O.I lps c) : CallOK P G (fun g args h => if g = f then enterA P (codeA P G call (iterL P G spec n lps) (runA P G spec n)) (codeD P G (runA P G spec n)) f args h else none) := by
  have hrunD : RunOK P G (runA P G spec n) := fun R c m s s' e a w Q hr h hQ => (run_sound hN hsp (fun _ _ h => draw_sound hm h) n R c m s s' e a w Q hr h hQ).1
  intro g args h av h' hcall
  simp only at hcall
  split at hcall
  · rename_i e
    subst e
    let run : Code → St → Run := fun c s => if ∃ fn, P.funcs[g]? = some fn ∧ fn.body = some c then codeA P G call (iterL P G spec n lps) (runA P G spec n) c s else none
    refine enter_sound (run := run) hN ?_ (codeD_sound hrunD.zero) g args h av h' ?_
    · intro c m s s' e a w Q hr h hQ
      by_cases hx : ∃ fn, P.funcs[g]? = some fn ∧ fn.body = some c
      · have h' : codeA P G call (iterL P G spec n lps) (runA P G spec n) c s = some (e, s') := by simpa only [run, if_pos hx] using h
        obtain ⟨fn, h1, h2⟩ := hx
        exact codeC_sound hm hN hsp hG n hc (hl fn c h1 h2) m s s' e a w Q hr h' hQ
      · simp only [run, if_neg hx] at h
        cases h
    · simp only [enterA] at hcall ⊢
      split at hcall
      · cases hcall
      · split at hcall
        · cases hcall
        · rename_i fn hf
          unfold enterB at hcall ⊢
          split at hcall
          · cases hcall
          · rename_i c hb
            have : run c = codeA P G call (iterL P G spec n lps) (runA P G spec n) c := by
              funext s
              simp only [run]
              rw [if_pos ⟨fn, hf, hb⟩]
            simp only [hb, this]
            exact hcall
  · cases hcall

/-- A call of a function that defers calls, its loops by contracts. -/
noncomputable def callMD (P : Program) (G : Nat → Option (List AV)) (spec : FuncId → Option (List AV → AHeap → Out)) (n : Nat) (sub : FuncId → List (Nat → List LoopSp)) (lps : Nat → List LoopSp) (f : FuncId) (args : List AV) (h : AHeap) : Out := enterA P (codeM P G spec n sub lps) (codeD P G (runA P G spec n)) f args h
theorem callMD_ok (hm : P.follows .mixedOrders = true) (hN : ∀ (f : FuncId) (fn : Func), P.funcs[f]? = some fn → (fn.name == "runtime.NumGoroutine") = false) (hsp : SpecOK P G spec) (hG : PlainG G) (n : Nat) {sub : FuncId → List (Nat → List LoopSp)} (hs : SubOK P G O.I sub) (f : FuncId)
    (hl : ∀ fn c, P.funcs[f]? = some fn → fn.body = some c → LoopsOK P G O.I lps c) : CallOK P G (fun g args h => if g = f then callMD P G spec n sub lps f args h else none) := by
  have h1 := enterCD_ok hm hN hsp hG n (callsM_ok hm hN hsp hG n hs 9) f hl
  intro g args h av h' hq
  simp only at hq
  split at hq
  · rename_i e
    exact h1 g args h av h' (by simp only [if_pos e]; exact hq)
  · cases hq
/-- A call, its loops by contracts; where that stands still, by a panic and what is deferred. -/
noncomputable def callMP (P : Program) (G : Nat → Option (List AV)) (spec : FuncId → Option (List AV → AHeap → Out)) (n : Nat) (sub : FuncId → List (Nat → List LoopSp)) (lps : Nat → List LoopSp) (lpp : FuncId → Nat → List PanSp) (k : Nat) (f : FuncId) (args : List AV) (h : AHeap) : Out :=
  match callMD P G spec n sub lps f args h with
  | some r => some r
  | none => recL P G spec n lpp k f args h
theorem callMP_ok (hm : P.follows .mixedOrders = true) (hN : ∀ (f : FuncId) (fn : Func), P.funcs[f]? = some fn → (fn.name == "runtime.NumGoroutine") = false) (hsp : SpecOK P G spec) (hG : PlainG G) (n : Nat) {sub : FuncId → List (Nat → List LoopSp)} (hs : SubOK P G O.I sub) (f : FuncId)
    (hl : ∀ fn c, P.funcs[f]? = some fn → fn.body = some c → LoopsOK P G O.I lps c) {lpp : FuncId → Nat → List PanSp} (hsp2 : SubPOK P G O.I lpp) (k : Nat) : CallOK P G (fun g args h => if g = f then callMP P G spec n sub lps lpp k f args h else none) := by
  intro g args h av h' hq
  simp only at hq
  split at hq
  · rename_i e
    subst e
    unfold callMP at hq
    split at hq
    · rename_i r hr
      cases hq
      exact callMD_ok hm hN hsp hG n hs g hl g args h av h' (by simp only [if_true]; exact hr)
    · have hrun : RunOK P G (runA P G spec n) := fun R c m s s' e a w Q hr h hQ => (run_sound hN hsp (fun _ _ h => draw_sound hm h) n R c m s s' e a w Q hr h hQ).1
      exact recL_ok (fun c m s s' e a w Q hr h hQ => wpIn_wide.1 (run_sound hN hsp (fun _ _ h => draw_sound hm h) n plainR c m s s' e a w Q hr h hQ).1) hm hG hN (callsL_ok hm hN hsp n) (codeD_sound hrun.zero) hsp2 k g args h av h' hq
  · cases hq
end
end Go.AM
