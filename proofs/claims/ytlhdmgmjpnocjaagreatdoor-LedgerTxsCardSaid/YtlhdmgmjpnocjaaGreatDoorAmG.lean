/-
  A part of the proof of LedgerTxs (the machine on named data, and the contracts of the functions that the law reaches): AmLoop1 AmLoop2 AmLoop3 AmLoop4 AmLoop5 AmLoop6.
-/
import Derived.LoopN
import Derived.Test.YtlhdmgmjpnocjaaGreatDoorAmF
set_option linter.all false
set_option linter.unusedVariables false
set_option linter.unusedSimpArgs false
set_option linter.unusedSectionVars false
namespace Go.AM
open Go

/-! ## Names put for names -/
noncomputable def subst (τ : List SX) : SX → SX
  | .v i => τ.getD i (.v i)
  | .ki k z => .ki k z
  | .kb b => .kb b
  | .ks s => .ks s
  | .emp => .emp
  | .len e => .len (subst τ e)
  | .at e i c => .at (subst τ e) (subst τ i) c
  | .byte e i => .byte (subst τ e) (subst τ i)
  | .bin op x y => .bin op (subst τ x) (subst τ y)
  | .conv k x => .conv k (subst τ x)
  | .not x => .not (subst τ x)
  | .cut e a b => .cut (subst τ e) (subst τ a) (subst τ b)
  | .cat x y => .cat (subst τ x) (subst τ y)
  | .bytes x => .bytes (subst τ x)
  | .text x => .text (subst τ x)
  | .all es => .all (substs es)
  | .app f es => .app f (substs es)
  | .row es => .row (substs es)
where
  substs : List SX → List SX
    | [] => []
    | e :: es => subst τ e :: substs es

/-- What the names of a template stand for. -/
noncomputable def Rho.sub (R : Rho) (τ : List SX) : Rho := ⟨fun i => den R (τ.getD i (.v i)), R.I⟩

mutual
theorem den_subst (R : Rho) (τ : List SX) : ∀ e : SX, den R (subst τ e) = den (R.sub τ) e
  | .v i => rfl
  | .ki k z => rfl
  | .kb b => rfl
  | .ks s => rfl
  | .emp => rfl
  | .len e => by simp only [subst, den, den_subst R τ e]
  | .at e i c => by simp only [subst, den, den_subst R τ e, den_subst R τ i]
  | .byte e i => by simp only [subst, den, den_subst R τ e, den_subst R τ i]
  | .bin op x y => by simp only [subst, den, den_subst R τ x, den_subst R τ y]
  | .conv k x => by simp only [subst, den, den_subst R τ x]
  | .not x => by simp only [subst, den, den_subst R τ x]
  | .cut e a b => by simp only [subst, den, den_subst R τ e, den_subst R τ a, den_subst R τ b]
  | .cat x y => by simp only [subst, den, den_subst R τ x, den_subst R τ y]
  | .bytes x => by simp only [subst, den, den_subst R τ x]
  | .text x => by simp only [subst, den, den_subst R τ x]
  | .all es => by simp only [subst, den, denAll_subst R τ es]
  | .app f es => by simp only [subst, den, denL_subst R τ es]; rfl
  | .row es => by simp only [subst, den, denL_subst R τ es]
theorem denAll_subst (R : Rho) (τ : List SX) : ∀ es : List SX, den.denAll R (subst.substs τ es) = den.denAll (R.sub τ) es
  | [] => rfl
  | e :: es => by simp only [subst.substs, den.denAll, den_subst R τ e, denAll_subst R τ es]
theorem denL_subst (R : Rho) (τ : List SX) : ∀ es : List SX, den.denL R (subst.substs τ es) = den.denL (R.sub τ) es
  | [] => rfl
  | e :: es => by simp only [subst.substs, den.denL, den_subst R τ e, denL_subst R τ es]
end

theorem Rep.emono {m m' : Env} (hE : ∀ b o, m.E b = some o → m'.E b = some o) {t : Ty} {d : DV} {v : Value} (h : Rep m t d v) : Rep m' t d v := by
  have h1 : m.wle { m with E := m'.E } := ⟨fun _ h => h, fun _ _ => rfl, hE, rfl, rfl⟩
  have h2 := Rep.wmono h1 t d v h
  have key : ∀ (n : Env) (n' : Env), n.E = n'.E → ∀ t d v, Rep n t d v → Rep n' t d v := by
    intro n n' e t
    have he : ∀ b o, n.ecell b o = n'.ecell b o := fun b o => by simp [Env.ecell, e]
    induction t using Ty.rec (motive_2 := fun ts => ∀ ds b o, RepL n ts ds b o → RepL n' ts ds b o) with
    | int k => intro d v h; simpa only [Rep] using h
    | bool => intro d v h; simpa only [Rep] using h
    | str => intro d v h; simpa only [Rep] using h
    | slice cs ih =>
      intro d v h
      simp only [Rep] at h ⊢
      obtain ⟨es, a, c, h1, h2, h3, h4, h5, h6⟩ := h
      refine ⟨es, a, c, h1, h2, h3, h4, h5, ?_⟩
      rcases h6 with h6 | ⟨b, o, e, h7⟩
      · exact .inl h6
      · exact .inr ⟨b, o, e, fun i row hi => ih _ _ _ (h7 i row hi)⟩
    | nil => rename_i ds b o h; simpa only [RepL] using h
    | cons t ts iht ihts =>
      rename_i ds b o h
      simp only [RepL] at h ⊢
      obtain ⟨d, rest, v, h1, h2, h3, h4⟩ := h
      exact ⟨d, rest, v, h1, by rw [← he]; exact h2, iht _ _ h3, ihts _ _ _ h4⟩
  exact key { m with E := m'.E } m' rfl t d v h2

/-! ## From one environment to another -/
/-- What names and frozen blocks m has, m' has. -/
structure Env.sees (nm : Nat → Bool) (m m' : Env) : Prop where
  dom : ∀ id, nm id = true → m.dom id → m'.dom id ∧ m'.mu id = m.mu id
  E : ∀ b o, m.E b = some o → m'.E b = some o

theorem Env.sees.ecell {nm : Nat → Bool} {m m' : Env} (h : m.sees nm m') {b o : Nat} {v : Value} (hv : m.ecell b o = some v) : m'.ecell b o = some v := by
  unfold Env.ecell at *
  cases he : m.E b with
  | none => simp [he] at hv
  | some x => rw [h.E b x he]; simpa [he] using hv

/-- a, a template with names to be put, holds of what b holds of. -/
noncomputable def matchAV (nm : Nat → Bool) (τ : List SX) : AV → AV → Bool
  | .dead, _ => true
  | .sy t e, a => match asTy t a with
    | some x => eqSX (subst τ e) x
    | none => false
  | .sc u, .sc v => match u, v with
    | .func (.func f) a b, .func (.func g) c d => Nat.beq f g && Nat.beq a.size 0 && Nat.beq b.size 0 && Nat.beq c.size 0 && Nat.beq d.size 0
    | u, v => eqV u v
  | .ptr i a, .ptr j b => Nat.beq i j && Nat.beq a b && nm i
  | .sl i a l c, .sl j b k d => Nat.beq i j && Nat.beq a b && Nat.beq l k && nm i && (match c, d with
    | none, none => true
    | some c, some d => Nat.beq c d
    | _, _ => false)
  | .emp a, .emp b => Nat.beq a b
  | .agg cs, .agg ds => matchAVs cs ds
  | .fp cs, .fp ds => matchAVs cs ds
  | _, _ => false
where
  matchAVs : List AV → List AV → Bool
    | [], [] => true
    | c :: cs, d :: ds => matchAV nm τ c d && matchAVs cs ds
    | _, _ => false

mutual
theorem match_sound {nm : Nat → Bool} {τ : List SX} {m m' : Env} (hs : m.sees nm m') (hR : m'.R = m.R.sub τ) : ∀ (a b : AV) (v : Value), matchAV nm τ a b = true → V m b v → V m' a v := by
  intro a b v h hv
  unfold matchAV at h
  split at h <;> (try (cases h; done))
  · simp [V]
  · rename_i t e b
    split at h
    · rename_i x hx
      have := asTy_spec hx hv
      simp only [V]
      rw [hR, ← den_subst, eqSX_eq h]
      exact this.emono hs.E
    · cases h
  · rename_i u v'
    split at h
    · rename_i f a b g c d
      simp only [Bool.and_eq_true, Nat.beq_eq] at h
      obtain ⟨⟨⟨⟨rfl, h1⟩, h2⟩, h3⟩, h4⟩ := h
      simp only [V] at hv ⊢
      rw [hv]
      have e1 : a = #[] := Array.eq_empty_of_size_eq_zero h1
      have e2 : b = #[] := Array.eq_empty_of_size_eq_zero h2
      have e3 : c = #[] := Array.eq_empty_of_size_eq_zero h3
      have e4 : d = #[] := Array.eq_empty_of_size_eq_zero h4
      rw [e1, e2, e3, e4]
    · rw [eqV_sound (O := ⟨fun _ => none, fun _ _ => .bool false⟩) h]; simpa only [V] using hv
  · simp only [Bool.and_eq_true, Nat.beq_eq] at h
    obtain ⟨⟨rfl, rfl⟩, h3⟩ := h
    simp only [V] at hv ⊢
    obtain ⟨h4, h5⟩ := hs.dom _ h3 hv.1
    rw [h5]
    exact ⟨h4, hv.2⟩
  · simp only [Bool.and_eq_true, Nat.beq_eq] at h
    obtain ⟨⟨⟨⟨rfl, rfl⟩, rfl⟩, h3⟩, h6⟩ := h
    simp only [V] at hv ⊢
    obtain ⟨h4, h5⟩ := hs.dom _ h3 hv.1
    rw [h5]
    split at h6
    · exact ⟨h4, hv.2⟩
    · simp only [Nat.beq_eq] at h6
      subst h6
      exact ⟨h4, hv.2⟩
    · cases h6
  · rw [Nat.beq_eq] at h
    rw [h]
    simpa only [V] using hv
  · simp only [V] at hv ⊢
    obtain ⟨vs, e, hl⟩ := hv
    exact ⟨vs, e, matchs_sound hs hR _ _ _ h hl⟩
  · simp only [V] at hv ⊢
    obtain ⟨b, o, e, hc⟩ := hv
    exact ⟨b, o, e, matchs_cells hs hR _ _ b o h hc⟩
theorem matchs_sound {nm : Nat → Bool} {τ : List SX} {m m' : Env} (hs : m.sees nm m') (hR : m'.R = m.R.sub τ) : ∀ (as bs : List AV) (vs : List Value), matchAV.matchAVs nm τ as bs = true → VL m bs vs → VL m' as vs
  | [], [], _, _, hv => by simpa only [VL] using hv
  | a :: as, b :: bs, vs, h, hv => by
    simp only [matchAV.matchAVs, Bool.and_eq_true] at h
    simp only [VL] at hv ⊢
    obtain ⟨v, us, e, h1, h2⟩ := hv
    exact ⟨v, us, e, match_sound hs hR a b v h.1 h1, matchs_sound hs hR as bs us h.2 h2⟩
  | [], _ :: _, _, h, _ => by simp [matchAV.matchAVs] at h
  | _ :: _, [], _, h, _ => by simp [matchAV.matchAVs] at h
theorem matchs_cells {nm : Nat → Bool} {τ : List SX} {m m' : Env} (hs : m.sees nm m') (hR : m'.R = m.R.sub τ) : ∀ (as bs : List AV) (b o : Nat), matchAV.matchAVs nm τ as bs = true → VC m b o bs → VC m' b o as
  | [], [], _, _, _, _ => by simp [VC]
  | x :: as, y :: bs, b, o, h, hv => by
    simp only [matchAV.matchAVs, Bool.and_eq_true] at h
    simp only [VC] at hv ⊢
    obtain ⟨⟨v, h1, h2⟩, h3⟩ := hv
    exact ⟨⟨v, hs.ecell h1, match_sound hs hR x y v h.1 h2⟩, matchs_cells hs hR as bs b (o + 1) h.2 h3⟩
  | [], _ :: _, _, _, h, _ => by simp [matchAV.matchAVs] at h
  | _ :: _, [], _, _, h, _ => by simp [matchAV.matchAVs] at h
end
end Go.AM
namespace Go.AM
open Go

/-- Loops by contracts stand in no round. -/
instance plainR : Rnd := ⟨none⟩

/-! ## Templates of a state -/
structure Tmpl where
  tm : List (Nat × AV)
  ob : List (Nat × Blk)

noncomputable def deadTm : Nat → Tr AV
  | 0 => .nil
  | n + 1 => (deadTm n).put n .dead
noncomputable def mkTm (n : Nat) : List (Nat × AV) → Tr AV
  | [] => deadTm n
  | (t, a) :: l => (mkTm n l).put t a
noncomputable def putOb (t : Tr AObj) : List (Nat × Blk) → Tr AObj
  | [] => t
  | (i, b) :: l => (putOb t l).put i (.blk b)
noncomputable def bigN : Nat := 1000000
/-- A number above all names of a template. -/
noncomputable def topN : List (Nat × Blk) → Nat
  | [] => bigN
  | (i, _) :: l => Nat.add (Nat.succ i) (topN l)
theorem topN_gt : ∀ {l : List (Nat × Blk)} {i : Nat} {b : Blk}, (i, b) ∈ l → i < topN l
  | (j, c) :: l, i, b, h => by
    simp only [List.mem_cons, Prod.mk.injEq] at h
    show i < Nat.succ j + topN l
    rcases h with ⟨rfl, rfl⟩ | h
    · omega
    · have := topN_gt h
      omega
noncomputable def Tmpl.st (T : Tmpl) (n : Nat) : St := { tm := mkTm n T.tm, n, h := { next := topN T.ob, lim := Nat.succ (topN T.ob), t := putOb .nil T.ob } }
noncomputable def namesIn : List (Nat × Blk) → Nat → Bool
  | [], _ => false
  | (i, _) :: l, id => Nat.beq i id || namesIn l id

theorem deadTm_get : ∀ (n t : Nat), (deadTm n).get t = if t < n then some .dead else none
  | 0, t => by simp [deadTm]
  | n + 1, t => by
    rw [deadTm, Tr.get_put, deadTm_get n t]
    by_cases h : n = t
    · subst h; simp
    · rw [if_neg h]
      by_cases h2 : t < n
      · rw [if_pos h2, if_pos (by omega)]
      · rw [if_neg h2, if_neg (by omega)]
theorem mkTm_get (n : Nat) : ∀ (l : List (Nat × AV)) (t : Nat), (∃ a, (t, a) ∈ l ∧ (mkTm n l).get t = some a) ∨ ((∀ a, (t, a) ∉ l) ∧ (mkTm n l).get t = if t < n then some .dead else none)
  | [], t => .inr ⟨by simp, by rw [mkTm, deadTm_get]⟩
  | (u, a) :: l, t => by
    rw [mkTm, Tr.get_put]
    by_cases h : u = t
    · subst h
      exact .inl ⟨a, by simp, by simp⟩
    · rw [if_neg h]
      rcases mkTm_get n l t with ⟨b, h1, h2⟩ | ⟨h1, h2⟩
      · exact .inl ⟨b, by simp [h1], h2⟩
      · refine .inr ⟨fun b hb => ?_, h2⟩
        simp only [List.mem_cons, Prod.mk.injEq] at hb
        rcases hb with ⟨e, _⟩ | hb
        · exact h e.symm
        · exact h1 b hb
theorem putOb_get (t : Tr AObj) : ∀ (l : List (Nat × Blk)) (i : Nat), (∃ b, (i, b) ∈ l ∧ (putOb t l).get i = some (.blk b)) ∨ ((∀ b, (i, b) ∉ l) ∧ (putOb t l).get i = t.get i)
  | [], i => .inr ⟨by simp, rfl⟩
  | (j, b) :: l, i => by
    rw [putOb, Tr.get_put]
    by_cases h : j = i
    · subst h
      exact .inl ⟨b, by simp, by simp⟩
    · rw [if_neg h]
      rcases putOb_get t l i with ⟨c, h1, h2⟩ | ⟨h1, h2⟩
      · exact .inl ⟨c, by simp [h1], h2⟩
      · refine .inr ⟨fun c hc => ?_, h2⟩
        simp only [List.mem_cons, Prod.mk.injEq] at hc
        rcases hc with ⟨e, _⟩ | hc
        · exact h e.symm
        · exact h1 c hc
theorem putOb_nil (t : Tr AObj) (l : List (Nat × Blk)) (i : Nat) : (putOb t l).get i = match (putOb .nil l).get i with | some x => some x | none => t.get i := by
  induction l with
  | nil => simp [putOb]
  | cons x l ih =>
    obtain ⟨j, b⟩ := x
    rw [putOb, putOb, Tr.get_put, Tr.get_put]
    by_cases h : j = i
    · simp [h]
    · rw [if_neg h, if_neg h, ih]
theorem putOb_blk {l : List (Nat × Blk)} {i : Nat} {x : AObj} (h : (putOb .nil l).get i = some x) : ∃ b, x = .blk b := by
  rcases putOb_get .nil l i with ⟨b, _, h2⟩ | ⟨_, h2⟩
  · rw [h] at h2; cases h2; exact ⟨b, rfl⟩
  · rw [h] at h2; simp at h2
theorem namesIn_iff : ∀ {l : List (Nat × Blk)} {i : Nat}, namesIn l i = true ↔ ∃ b, (i, b) ∈ l
  | [], i => by simp [namesIn]
  | (j, b) :: l, i => by
    simp only [namesIn, Bool.or_eq_true, Nat.beq_eq, namesIn_iff (l := l), List.mem_cons, Prod.mk.injEq]
    constructor
    · rintro (rfl | ⟨c, hc⟩)
      · exact ⟨b, .inl ⟨rfl, rfl⟩⟩
      · exact ⟨c, .inr hc⟩
    · rintro ⟨c, ⟨rfl, _⟩ | hc⟩
      · exact .inl rfl
      · exact .inr ⟨c, hc⟩

noncomputable def cellsOK (f : Nat → Bool) : Nat → Bool
  | 0 => true
  | n + 1 => f n && cellsOK f n
theorem cellsOK_get {f : Nat → Bool} : ∀ {n i : Nat}, cellsOK f n = true → i < n → f i = true
  | n + 1, i, h, hi => by
    simp only [cellsOK, Bool.and_eq_true] at h
    rcases Nat.lt_succ_iff_lt_or_eq.1 hi with h1 | h1
    · exact cellsOK_get h.2 h1
    · rw [h1]; exact h.1

/-- Block a, a template, holds of what block b holds of. -/
noncomputable def matchBlk (nm : Nat → Bool) (τ : List SX) (a b : Blk) : Bool :=
  Nat.beq a.t b.t && Nat.ble a.n b.n && (Bool.not a.row || (b.row && Nat.beq a.sz b.sz)) && cellsOK (fun i => matchAV nm τ (a.cell i) (b.cell i)) a.n

theorem matchBlk_sound {nm : Nat → Bool} {τ : List SX} {m m' : Env} (hs : m.sees nm m') (hR : m'.R = m.R.sub τ) {a b : Blk} (h : matchBlk nm τ a b = true) {p : Nat × Nat} {w : World} (hb : BR m p b w) : BR m' p a w := by
  simp only [matchBlk, Bool.and_eq_true, Nat.beq_eq, Nat.ble_eq, Bool.or_eq_true, Bool.not_eq_true'] at h
  obtain ⟨⟨⟨h1, h2⟩, h3⟩, h4⟩ := h
  obtain ⟨c, g1, g2, g3, g4⟩ := hb
  refine ⟨c, by rw [h1]; exact g1, by omega, fun i hi => ?_, fun hr => ?_⟩
  · obtain ⟨v, k1, k2⟩ := g3 i (by omega)
    exact ⟨v, k1, match_sound hs hR _ _ v (cellsOK_get h4 hi) k2⟩
  · rcases h3 with h3 | h3
    · rw [h3] at hr; cases hr
    · rw [h3.2]; exact g4 h3.1

noncomputable def matchTms (nm : Nat → Bool) (τ : List SX) (n : Nat) (tm : Tr AV) : List (Nat × AV) → Bool
  | [] => true
  | (t, a) :: l => Nat.blt t n && matchAV nm τ a (tmV tm t) && matchTms nm τ n tm l
noncomputable def matchObs (nm : Nat → Bool) (τ : List SX) (h : AHeap) : List (Nat × Blk) → Bool
  | [] => true
  | (i, b) :: l => (match h.blk? i with
    | some c => matchBlk nm τ b c
    | none => false) && matchObs nm τ h l
/-- No deferred calls. -/
noncomputable def bareDf (s : St) : Bool :=
  match s.df with
  | some [] => true
  | _ => false
theorem RS.plain [O : Orc] {m : Env} {G : Nat → Option (List AV)} {s : St} {a : Act} {w : World} (hr : RS m G s a w) (h : bareDf s = true) : a.defers = [] := by
  have hd := hr.defers
  unfold bareDf at h
  split at h
  · rename_i e
    rw [e] at hd
    exact hd
  · cases h
/-- The state is what the template says. -/
noncomputable def matchSt (T : Tmpl) (τ : List SX) (s : St) : Bool := (matchTms (namesIn T.ob) τ s.n s.tm T.tm && matchObs (namesIn T.ob) τ s.h T.ob) && bareDf s

theorem matchTms_get {nm : Nat → Bool} {τ : List SX} {n : Nat} {tm : Tr AV} : ∀ {l : List (Nat × AV)} {t : Nat} {a : AV}, matchTms nm τ n tm l = true → (t, a) ∈ l → t < n ∧ matchAV nm τ a (tmV tm t) = true
  | (u, b) :: l, t, a, h, hm => by
    simp only [matchTms, Bool.and_eq_true] at h
    simp only [List.mem_cons, Prod.mk.injEq] at hm
    rcases hm with ⟨rfl, rfl⟩ | hm
    · exact ⟨blt_lt h.1.1, h.1.2⟩
    · exact matchTms_get h.2 hm
theorem matchObs_get {nm : Nat → Bool} {τ : List SX} {h : AHeap} : ∀ {l : List (Nat × Blk)} {i : Nat} {b : Blk}, matchObs nm τ h l = true → (i, b) ∈ l → ∃ c, h.blk? i = some c ∧ matchBlk nm τ b c = true
  | (j, c) :: l, i, b, hh, hm => by
    simp only [matchObs, Bool.and_eq_true] at hh
    simp only [List.mem_cons, Prod.mk.injEq] at hm
    rcases hm with ⟨rfl, rfl⟩ | hm
    · have := hh.1
      split at this
      · rename_i c e
        exact ⟨c, e, this⟩
      · cases this
    · exact matchObs_get hh.2 hm

open Classical in
/-- The environment in which a template's names are the only ones; all else is laid by. -/
noncomputable def Env.inner (m : Env) (R : Rho) (ob : List (Nat × Blk)) (w : World) : Env :=
  { R, mu := m.mu, dom := fun id => namesIn ob id = true, res := fun _ => False, E := m.E,
    F := fun b => if m.E b = none ∧ ¬ (∃ id, namesIn ob id = true ∧ (m.mu id).1 = b) then w.heap[b]? else none, io := m.io }

section
variable [O : Orc] {G : Nat → Option (List AV)} {m : Env} {s : St} {a : Act} {w : World} {T : Tmpl} {τ : List SX}

theorem matched_dom (hr : HR m s.h w) (h : matchSt T τ s = true) {id : Nat} (hid : namesIn T.ob id = true) : ∃ b c, (id, b) ∈ T.ob ∧ s.h.t.get id = some (.blk c) ∧ matchBlk (namesIn T.ob) τ b c = true ∧ id < topN T.ob := by
  simp only [matchSt, Bool.and_eq_true] at h
  obtain ⟨b, hb⟩ := namesIn_iff.1 hid
  obtain ⟨c, h2, h3⟩ := matchObs_get h.1.2 hb
  exact ⟨b, c, hb, blk?_some h2, h3, topN_gt hb⟩

theorem inner_sees (hr : HR m s.h w) (h : matchSt T τ s = true) (R : Rho) : m.sees (namesIn T.ob) (m.inner R T.ob w) :=
  ⟨fun _ hid _ => ⟨hid, rfl⟩, fun _ _ e => e⟩

/-- INTO A TEMPLATE. -/
theorem RS.into {l2 : SX → Option Bool} {I2 : Nat → List DV → DV} (hG : PlainG G) (hr : @RS O plainR m G s a w) (h : matchSt T τ s = true) (hF : @FactsOK (.mk l2 I2) (m.R.sub τ)) : @RS (.mk l2 I2) plainR (m.inner (m.R.sub τ) T.ob w) G (T.st s.n) a w := by
  have hs := inner_sees (T := T) hr.h h (m.R.sub τ)
  have hm := h
  simp only [matchSt, Bool.and_eq_true] at hm
  refine @RS.mk (.mk l2 I2) plainR _ _ _ _ _ hr.size (fun t => ?_) (hr.plain hm.2) (fun _ => rfl) ?_ (@GOK.mk (.mk l2 I2) _ _ ?_ hF)
  · rcases mkTm_get s.n T.tm t with ⟨x, h1, h2⟩ | ⟨h1, h2⟩
    · show V _ (((mkTm s.n T.tm).get t).getD (.sc undef)) _
      rw [h2, Option.getD_some]
      exact match_sound hs rfl _ _ _ (matchTms_get hm.1.1 h1).2 (hr.tm t)
    · show V _ (((mkTm s.n T.tm).get t).getD (.sc undef)) _
      rw [h2]
      by_cases ht : t < s.n
      · rw [if_pos ht]; simp [V]
      · rw [if_neg ht]
        simp only [Option.getD_none, V]
        have : a.tmps.size ≤ t := by rw [hr.size]; omega
        simp [Array.getD, Nat.not_lt.2 this]
  · have own : ∀ id, namesIn T.ob id = true → ∃ b c, (id, b) ∈ T.ob ∧ s.h.t.get id = some (.blk c) ∧ matchBlk (namesIn T.ob) τ b c = true ∧ id < topN T.ob := fun id hid => matched_dom hr.h h hid
    refine ⟨fun id hd => ?_, Nat.lt_succ_self _, fun _ hd => hd.elim, fun b x hb => ?_, fun b o hb => hr.h.E b o hb, fun b o hb => ?_, fun id o ho => ?_, fun i j x y hi hj e => ?_, hr.h.io⟩
    · obtain ⟨b, c, _, _, _, h4⟩ := own id hd
      show id ≠ topN T.ob ∧ id < topN T.ob + 1
      omega
    · simp only [Env.inner] at hb ⊢
      split at hb
      · rename_i hc; exact hc.1
      · cases hb
    · simp only [Env.inner] at hb
      split at hb
      · exact hb
      · cases hb
    · have ho' : (putOb .nil T.ob).get id = some o := ho
      rcases putOb_get .nil T.ob id with ⟨b, h1, h2⟩ | ⟨h1, h2⟩
      · rw [h2] at ho'
        cases ho'
        have hid : namesIn T.ob id = true := namesIn_iff.2 ⟨b, h1⟩
        obtain ⟨c, h3, h4⟩ := matchObs_get hm.1.2 h1
        obtain ⟨k1, k2, k3⟩ := hr.h.obj id _ (blk?_some h3)
        refine ⟨hid, ⟨k2.1, ?_⟩, matchBlk_sound hs rfl h4 k3⟩
        simp only [Env.inner]
        rw [if_neg]
        rintro ⟨_, h6⟩
        exact h6 ⟨id, hid, rfl⟩
      · rw [h2] at ho'
        simp at ho'
    · have get : ∀ i x, (putOb .nil T.ob).get i = some x → namesIn T.ob i = true := by
        intro i x hx
        rcases putOb_get .nil T.ob i with ⟨b, h1, h2⟩ | ⟨h1, h2⟩
        · exact namesIn_iff.2 ⟨b, h1⟩
        · rw [h2] at hx
          simp at hx
      obtain ⟨_, _, _, k1, _, _⟩ := own i (get i x hi)
      obtain ⟨_, _, _, k2, _, _⟩ := own j (get j y hj)
      exact hr.h.inj i j _ _ k1 k2 e
  · intro g cs e
    have := hr.g.g g cs e
    have hp := hG g cs e
    have key : ∀ (cs : List AV) (o : Nat), (∀ c ∈ cs, ∃ u, c = AV.sc u) → VC m g o cs → VC (m.inner (m.R.sub τ) T.ob w) g o cs := by
      intro cs
      induction cs with
      | nil => intro o _ _; simp [VC]
      | cons c cs ih =>
        intro o hp hv
        simp only [VC] at hv ⊢
        obtain ⟨⟨v, h1, h2⟩, h3⟩ := hv
        obtain ⟨u, rfl⟩ := hp c (by simp)
        exact ⟨⟨v, h1, by simpa [V] using h2⟩, ih _ (fun c hc => hp c (List.mem_cons_of_mem _ hc)) h3⟩
    exact key cs 0 hp this

/-- OUT OF A TEMPLATE. -/
theorem RS.outof {l2 : SX → Option Bool} {I2 : Nat → List DV → DV} {T2 : Tmpl} {m' : Env} {a' : Act} {w' : World} {tm : List (Nat × AV)} {ob : List (Nat × Blk)} (hr : @RS O plainR m G s a w) (h : matchSt T τ s = true)
    (hle : (m.inner (m.R.sub τ) T.ob w).le m') (hr' : @RS (.mk l2 I2) plainR m' G (T2.st s.n) a' w')
    (htm : ∀ t v, V m' (((mkTm s.n T2.tm).get t).getD (.sc undef)) v → V { m with E := m'.E } (((mkTm s.n tm).get t).getD (.sc undef)) v)
    (hob : ∀ i b, (putOb .nil ob).get i = some (.blk b) → ∃ c, (putOb .nil T2.ob).get i = some (.blk c) ∧ namesIn T.ob i = true ∧ ∀ p, BR m' p c w' → BR { m with E := m'.E } p b w')
    (hall : ∀ i, namesIn T.ob i = true → ∃ b, (putOb .nil ob).get i = some (.blk b)) :
    m.le { m with E := m'.E } ∧ @RS O plainR { m with E := m'.E } G { tm := mkTm s.n tm, n := s.n, h := { s.h with t := putOb s.h.t ob } } a' w' := by
  obtain ⟨z1, z2, z3, _, z4, _⟩ := hr'
  have hm : m.le { m with E := m'.E } := ⟨⟨fun _ h => h, fun _ _ => rfl, fun b o e => hle.E b o e, rfl, rfl⟩, fun _ _ h => h, fun _ h => h⟩
  refine ⟨hm, ?_⟩
  have hF : ∀ b x, m.F b = some x → m'.F b = some x := by
    intro b x hb
    refine hle.F b x ?_
    simp only [Env.inner]
    rw [if_pos, hr.h.F b x hb]
    refine ⟨hr.h.EF b x hb, ?_⟩
    rintro ⟨id, hid, rfl⟩
    obtain ⟨_, c, _, k1, _⟩ := matched_dom hr.h h hid
    have := (hr.h.obj id _ k1).2.1.2
    rw [this] at hb
    cases hb
  refine ⟨z1, fun t => ?_, z3, fun _ => rfl, ?_, hr.g.mono hm⟩
  · exact htm t _ (z2 t)
  · refine ⟨hr.h.next, hr.h.lim, hr.h.res, fun b x hb => z4.EF b x (hF b x hb), fun b o hb => z4.E b o hb, fun b o hb => z4.F b o (hF b o hb), fun id o ho => ?_, fun i j x y hi hj e => ?_, z4.io.trans hle.io⟩
    · have ho' : (putOb s.h.t ob).get id = some o := ho
      rw [putOb_nil] at ho'
      cases h1 : (putOb .nil ob).get id with
      | some x =>
        obtain ⟨b, h2⟩ := putOb_blk h1
        rw [h1] at ho'
        cases ho'
        subst h2
        obtain ⟨c, hc, hid, hb⟩ := hob id b h1
        obtain ⟨_, c0, _, k1, _⟩ := matched_dom hr.h h hid
        obtain ⟨g1, g2, _⟩ := hr.h.obj id _ k1
        obtain ⟨g3, g4, g5⟩ := z4.obj id _ hc
        have hmu : m'.mu id = m.mu id := hle.mu id hid
        rw [hmu] at g4 g5
        exact ⟨g1, ⟨g4.1, g2.2⟩, hb _ g5⟩
      | none =>
        rw [h1] at ho'
        obtain ⟨g1, g2, g3⟩ := hr.h.obj id o ho'
        have hnot : ¬ ∃ id', namesIn T.ob id' = true ∧ (m.mu id').1 = (m.mu id).1 := by
          rintro ⟨id', hid', e⟩
          obtain ⟨_, c0, _, k1, _⟩ := matched_dom hr.h h hid'
          have := hr.h.inj id' id _ _ k1 ho' e
          subst this
          obtain ⟨b, hb⟩ := hall id' hid'
          rw [h1] at hb
          cases hb
        have hF' : ∃ x, m'.F (m.mu id).1 = some x ∧ w.heap[(m.mu id).1]? = some x := by
          have hl := g3.lt
          refine ⟨w.heap[(m.mu id).1], hle.F _ _ ?_, by simp [hl]⟩
          simp only [Env.inner]
          rw [if_pos ⟨g2.1, hnot⟩]
          simp [hl]
        obtain ⟨x, e1, e2⟩ := hF'
        refine ⟨g1, ⟨z4.EF _ _ e1, g2.2⟩, g3.wmove hm.towle ?_⟩
        rw [z4.F _ _ e1, e2]
    · have get : ∀ i x, (putOb s.h.t ob).get i = some x → ∃ x', s.h.t.get i = some x' := by
        intro i x hx
        rw [putOb_nil] at hx
        cases h1 : (putOb .nil ob).get i with
        | some y =>
          obtain ⟨b, h2⟩ := putOb_blk h1
          subst h2
          obtain ⟨_, _, hid, _⟩ := hob i b h1
          obtain ⟨_, c0, _, k1, _⟩ := matched_dom hr.h h hid
          exact ⟨_, k1⟩
        | none =>
          rw [h1] at hx
          exact ⟨x, hx⟩
      obtain ⟨x', hx'⟩ := get i x hi
      obtain ⟨y', hy'⟩ := get j y hj
      exact hr.h.inj i j x' y' hx' hy' e
end
end Go.AM
namespace Go.AM
open Go

/-! ## Names put into values -/
noncomputable def substAV (τ : List SX) : AV → AV
  | .sy t e => .sy t (subst τ e)
  | .agg cs => .agg (substAVs cs)
  | .fp cs => .fp (substAVs cs)
  | a => a
where
  substAVs : List AV → List AV
    | [] => []
    | c :: cs => substAV τ c :: substAVs cs

/-- Values that a template may hold. -/
noncomputable def okAV (nm : Nat → Bool) : AV → Bool
  | .sc _ => true
  | .sy _ _ => true
  | .dead => true
  | .emp _ => true
  | .ptr i _ => nm i
  | .sl i _ _ _ => nm i
  | .agg cs => okAVs cs
  | .fp cs => okAVs cs
  | _ => false
where
  okAVs : List AV → Bool
    | [] => true
    | c :: cs => okAV nm c && okAVs cs

/-- All names that a value holds. -/
noncomputable def sxs : AV → List SX
  | .sy _ e => [e]
  | .agg cs => sxss cs
  | .fp cs => sxss cs
  | _ => []
where
  sxss : List AV → List SX
    | [] => []
    | c :: cs => sxs c ++ sxss cs

mutual
theorem subst_sound {nm : Nat → Bool} {τ : List SX} {m m' : Env} (hs : m.sees nm m') (hR : m.R = m'.R.sub τ) : ∀ (a : AV) (v : Value), okAV nm a = true → V m a v → V m' (substAV τ a) v := by
  intro a v h hv
  unfold okAV at h
  split at h <;> (try (cases h; done))
  · simpa only [substAV, V] using hv
  · simp only [substAV, V] at hv ⊢
    rw [den_subst, ← hR]
    exact hv.emono hs.E
  · simp [substAV, V]
  · simpa only [substAV, V] using hv
  · simp only [substAV, V] at hv ⊢
    obtain ⟨h4, h5⟩ := hs.dom _ h hv.1
    rw [h5]
    exact ⟨h4, hv.2⟩
  · simp only [substAV, V] at hv ⊢
    obtain ⟨h4, h5⟩ := hs.dom _ h hv.1
    rw [h5]
    exact ⟨h4, hv.2⟩
  · simp only [substAV, V] at hv ⊢
    obtain ⟨vs, e, hl⟩ := hv
    exact ⟨vs, e, substs_sound hs hR _ _ h hl⟩
  · simp only [substAV, V] at hv ⊢
    obtain ⟨b, o, e, hc⟩ := hv
    exact ⟨b, o, e, substs_cells hs hR _ b o h hc⟩
theorem substs_sound {nm : Nat → Bool} {τ : List SX} {m m' : Env} (hs : m.sees nm m') (hR : m.R = m'.R.sub τ) : ∀ (as : List AV) (vs : List Value), okAV.okAVs nm as = true → VL m as vs → VL m' (substAV.substAVs τ as) vs
  | [], _, _, hv => by simpa only [substAV.substAVs, VL] using hv
  | a :: as, vs, h, hv => by
    simp only [okAV.okAVs, Bool.and_eq_true] at h
    simp only [substAV.substAVs, VL] at hv ⊢
    obtain ⟨v, us, e, h1, h2⟩ := hv
    exact ⟨v, us, e, subst_sound hs hR a v h.1 h1, substs_sound hs hR as us h.2 h2⟩
theorem substs_cells {nm : Nat → Bool} {τ : List SX} {m m' : Env} (hs : m.sees nm m') (hR : m.R = m'.R.sub τ) : ∀ (as : List AV) (b o : Nat), okAV.okAVs nm as = true → VC m b o as → VC m' b o (substAV.substAVs τ as)
  | [], _, _, _, _ => by simp [substAV.substAVs, VC]
  | a :: as, b, o, h, hv => by
    simp only [okAV.okAVs, Bool.and_eq_true] at h
    simp only [substAV.substAVs, VC] at hv ⊢
    obtain ⟨⟨v, h1, h2⟩, h3⟩ := hv
    exact ⟨⟨v, hs.ecell h1, subst_sound hs hR a v h.1 h2⟩, substs_cells hs hR as b (o + 1) h.2 h3⟩
end

mutual
/-- Other variables, the same names. -/
theorem reR_sound {m : Env} {R : Rho} : ∀ (a : AV) (v : Value), okAV (fun _ => true) a = true → (∀ e ∈ sxs a, den m.R e = den R e) → V m a v → V { m with R := R } a v := by
  intro a v h he hv
  unfold okAV at h
  split at h <;> (try (cases h; done))
  · simpa only [V] using hv
  · simp only [V] at hv ⊢
    rw [he _ (by simp [sxs])] at hv
    exact Rep.emono (m := m) (m' := { m with R := R }) (fun _ _ e => e) hv
  · simp [V]
  · simpa only [V] using hv
  · simpa only [V] using hv
  · simpa only [V] using hv
  · simp only [V] at hv ⊢
    obtain ⟨vs, e, hl⟩ := hv
    exact ⟨vs, e, reRs_sound _ _ h (fun e he' => he e (by simpa [sxs] using he')) hl⟩
  · simp only [V] at hv ⊢
    obtain ⟨b, o, e, hc⟩ := hv
    exact ⟨b, o, e, reRs_cells _ b o h (fun e he' => he e (by simpa [sxs] using he')) hc⟩
theorem reRs_sound {m : Env} {R : Rho} : ∀ (as : List AV) (vs : List Value), okAV.okAVs (fun _ => true) as = true → (∀ e ∈ sxs.sxss as, den m.R e = den R e) → VL m as vs → VL { m with R := R } as vs
  | [], _, _, _, hv => by simpa only [VL] using hv
  | a :: as, vs, h, he, hv => by
    simp only [okAV.okAVs, Bool.and_eq_true] at h
    simp only [sxs.sxss, List.mem_append] at he
    simp only [VL] at hv ⊢
    obtain ⟨v, us, e, h1, h2⟩ := hv
    exact ⟨v, us, e, reR_sound a v h.1 (fun e h' => he e (.inl h')) h1, reRs_sound as us h.2 (fun e h' => he e (.inr h')) h2⟩
theorem reRs_cells {m : Env} {R : Rho} : ∀ (as : List AV) (b o : Nat), okAV.okAVs (fun _ => true) as = true → (∀ e ∈ sxs.sxss as, den m.R e = den R e) → VC m b o as → VC { m with R := R } b o as
  | [], _, _, _, _, _ => by simp [VC]
  | a :: as, b, o, h, he, hv => by
    simp only [okAV.okAVs, Bool.and_eq_true] at h
    simp only [sxs.sxss, List.mem_append] at he
    simp only [VC] at hv ⊢
    obtain ⟨⟨v, h1, h2⟩, h3⟩ := hv
    exact ⟨⟨v, h1, reR_sound a v h.1 (fun e h' => he e (.inl h')) h2⟩, reRs_cells as b (o + 1) h.2 (fun e h' => he e (.inr h')) h3⟩
end

noncomputable def substTm (τ : List SX) : List (Nat × AV) → List (Nat × AV)
  | [] => []
  | (t, a) :: l => (t, substAV τ a) :: substTm τ l
/-- All cells of a block, put one by one. -/
noncomputable def Blk.all (b : Blk) (f : AV → AV) : Blk := { b with z := [], c := Blk.putAll .nil 0 ((b.cellsFrom 0 b.n).map f) }
noncomputable def substOb (τ : List SX) : List (Nat × Blk) → List (Nat × Blk)
  | [] => []
  | (i, b) :: l => (i, b.all (substAV τ)) :: substOb τ l
noncomputable def okTm (nm : Nat → Bool) (n : Nat) : List (Nat × AV) → Bool
  | [] => true
  | (t, a) :: l => Nat.blt t n && okAV nm a && okTm nm n l
noncomputable def okOb (nm : Nat → Bool) : List (Nat × Blk) → Bool
  | [] => true
  | (i, b) :: l => nm i && okAV.okAVs nm (b.cellsFrom 0 b.n) && okOb nm l
noncomputable def covers (ob : List (Nat × Blk)) : List (Nat × Blk) → Bool
  | [] => true
  | (i, _) :: l => namesIn ob i && covers ob l
noncomputable def sxsTm : List (Nat × AV) → List SX
  | [] => []
  | (_, a) :: l => sxs a ++ sxsTm l
noncomputable def sxsOb : List (Nat × Blk) → List SX
  | [] => []
  | (_, b) :: l => sxs.sxss (b.cellsFrom 0 b.n) ++ sxsOb l
noncomputable def Tmpl.sxs (T : Tmpl) : List SX := sxsTm T.tm ++ sxsOb T.ob

theorem all_cell (b : Blk) (f : AV → AV) {i : Nat} (hi : i < b.n) : (b.all f).cell i = f (b.cell i) := by
  unfold Blk.all
  have := cell_putAll { b with z := [], c := .nil } ((b.cellsFrom 0 b.n).map f) 0 i
  simp only at this
  show ({ b with z := [], c := Blk.putAll .nil 0 ((b.cellsFrom 0 b.n).map f) } : Blk).cell i = _
  rw [this, if_pos ⟨Nat.zero_le _, by simp [length_cellsFrom]; exact hi⟩]
  simp only [Nat.sub_zero, List.getElem?_map, getElem?_cellsFrom b b.n 0 i hi, Nat.zero_add, Option.map_some, Option.getD_some]

theorem okAVs_get {nm : Nat → Bool} : ∀ {as : List AV} {i : Nat} {a : AV}, okAV.okAVs nm as = true → as[i]? = some a → okAV nm a = true
  | x :: xs, 0, a, h, hi => by
    simp only [okAV.okAVs, Bool.and_eq_true] at h
    simp only [List.getElem?_cons_zero, Option.some.injEq] at hi
    rw [← hi]; exact h.1
  | x :: xs, i + 1, a, h, hi => by
    simp only [okAV.okAVs, Bool.and_eq_true] at h
    exact okAVs_get h.2 (by simpa using hi)
theorem sxss_get : ∀ {as : List AV} {i : Nat} {a : AV} {e : SX}, as[i]? = some a → e ∈ sxs a → e ∈ sxs.sxss as
  | x :: xs, 0, a, e, hi, he => by
    simp only [List.getElem?_cons_zero, Option.some.injEq] at hi
    subst hi
    simp [sxs.sxss, he]
  | x :: xs, i + 1, a, e, hi, he => by
    simp only [sxs.sxss, List.mem_append]
    exact .inr (sxss_get (by simpa using hi) he)

theorem BR.map {m m' : Env} {p : Nat × Nat} {b : Blk} {w : World} {f : AV → AV} (h : BR m p b w) (hf : ∀ i v, i < b.n → V m (b.cell i) v → V m' (f (b.cell i)) v) : BR m' p (b.all f) w := by
  obtain ⟨c, g1, g2, g3, g4⟩ := h
  refine ⟨c, g1, g2, fun i hi => ?_, g4⟩
  have hi' : i < b.n := hi
  obtain ⟨v, k1, k2⟩ := g3 i hi'
  exact ⟨v, k1, by rw [all_cell b f hi']; exact hf i v hi' k2⟩

theorem okTm_get {nm : Nat → Bool} {n : Nat} : ∀ {l : List (Nat × AV)} {t : Nat} {a : AV}, okTm nm n l = true → (t, a) ∈ l → t < n ∧ okAV nm a = true
  | (u, b) :: l, t, a, h, hm => by
    simp only [okTm, Bool.and_eq_true] at h
    simp only [List.mem_cons, Prod.mk.injEq] at hm
    rcases hm with ⟨rfl, rfl⟩ | hm
    · exact ⟨blt_lt h.1.1, h.1.2⟩
    · exact okTm_get h.2 hm
theorem okOb_get {nm : Nat → Bool} : ∀ {l : List (Nat × Blk)} {i : Nat} {b : Blk}, okOb nm l = true → (i, b) ∈ l → nm i = true ∧ okAV.okAVs nm (b.cellsFrom 0 b.n) = true
  | (j, c) :: l, i, b, h, hm => by
    simp only [okOb, Bool.and_eq_true] at h
    simp only [List.mem_cons, Prod.mk.injEq] at hm
    rcases hm with ⟨rfl, rfl⟩ | hm
    · exact h.1
    · exact okOb_get h.2 hm
theorem covers_get {ob : List (Nat × Blk)} : ∀ {l : List (Nat × Blk)} {i : Nat} {b : Blk}, covers ob l = true → (i, b) ∈ l → namesIn ob i = true
  | (j, c) :: l, i, b, h, hm => by
    simp only [covers, Bool.and_eq_true] at h
    simp only [List.mem_cons, Prod.mk.injEq] at hm
    rcases hm with ⟨rfl, rfl⟩ | hm
    · exact h.1
    · exact covers_get h.2 hm
theorem substOb_mem {τ : List SX} : ∀ {l : List (Nat × Blk)} {i : Nat} {b : Blk}, (i, b) ∈ substOb τ l ↔ ∃ c, (i, c) ∈ l ∧ b = c.all (substAV τ)
  | [], i, b => by simp [substOb]
  | (j, c) :: l, i, b => by
    simp only [substOb, List.mem_cons, Prod.mk.injEq, substOb_mem (l := l)]
    constructor
    · rintro (⟨rfl, rfl⟩ | ⟨d, h1, h2⟩)
      · exact ⟨c, .inl ⟨rfl, rfl⟩, rfl⟩
      · exact ⟨d, .inr h1, h2⟩
    · rintro ⟨d, ⟨rfl, rfl⟩ | h1, h2⟩
      · exact .inl ⟨rfl, h2⟩
      · exact .inr ⟨d, h1, h2⟩
theorem substTm_get {τ : List SX} {n : Nat} : ∀ (l : List (Nat × AV)) (t : Nat), (∃ a, (t, a) ∈ l ∧ (mkTm n l).get t = some a ∧ (mkTm n (substTm τ l)).get t = some (substAV τ a)) ∨
    ((∀ a, (t, a) ∉ l) ∧ (mkTm n l).get t = (if t < n then some .dead else none) ∧ (mkTm n (substTm τ l)).get t = if t < n then some .dead else none)
  | [], t => .inr ⟨by simp, by rw [mkTm, deadTm_get], by rw [substTm, mkTm, deadTm_get]⟩
  | (u, a) :: l, t => by
    rw [mkTm, substTm, mkTm, Tr.get_put, Tr.get_put]
    by_cases h : u = t
    · subst h
      exact .inl ⟨a, by simp, by simp, by simp⟩
    · rw [if_neg h, if_neg h]
      rcases substTm_get (τ := τ) (n := n) l t with ⟨b, h1, h2, h3⟩ | ⟨h1, h2, h3⟩
      · exact .inl ⟨b, by simp [h1], h2, h3⟩
      · refine .inr ⟨fun b hb => ?_, h2, h3⟩
        simp only [List.mem_cons, Prod.mk.injEq] at hb
        rcases hb with ⟨e, _⟩ | hb
        · exact h e.symm
        · exact h1 b hb
theorem substOb_get {τ : List SX} : ∀ (l : List (Nat × Blk)) (i : Nat), (putOb .nil (substOb τ l)).get i = ((putOb .nil l).get i).map fun | .blk b => .blk (b.all (substAV τ)) | x => x
  | [], i => by simp [putOb, substOb]
  | (j, b) :: l, i => by
    rw [putOb, substOb, putOb, Tr.get_put, Tr.get_put]
    by_cases h : j = i
    · simp [h]
    · rw [if_neg h, if_neg h, substOb_get l i]
end Go.AM
namespace Go.AM
open Go

/-! ## Loops that are taken by a contract -/
inductive Src where
  | tm (t : Nat) (ty : Ty)
  | cell (id k : Nat) (ty : Ty)
  | row (id k : Nat) (ty : Ty)

structure LoopSp where
  n : Nat
  T : Tmpl
  src : List Src
  pre : List (SX × Bool)
  cnd : SX
  yes : Ex × Tmpl
  no : Ex × Tmpl

noncomputable def tauOf (s : St) : List Src → Option (List SX)
  | [] => some []
  | .tm t ty :: l => match asTy ty (tmV s.tm t), tauOf s l with
    | some e, some es => some (e :: es)
    | _, _ => none
  | .cell id k ty :: l => match s.h.blk? id with
    | some b => match asTy ty (b.cell k), tauOf s l with
      | some e, some es => some (e :: es)
      | _, _ => none
    | none => none
  | .row id k ty :: l => match s.h.blk? id with
    | some b => match asTy ty (b.cell k), tauOf s l with
      | some (.at e _ _), some es => some (e :: es)
      | _, _ => none
    | none => none

noncomputable def LoopSp.pick (L : LoopSp) : Bool → Ex × Tmpl
  | true => L.yes
  | false => L.no

noncomputable def Tmpl.ok (T' T : Tmpl) (n : Nat) : Bool := okTm (namesIn T.ob) n T'.tm && okOb (namesIn T.ob) T'.ob && covers T'.ob T.ob

noncomputable def Tmpl.outer (T' : Tmpl) (τ : List SX) (s : St) : St := { tm := mkTm s.n (substTm τ T'.tm), n := s.n, h := { s.h with t := putOb s.h.t (substOb τ T'.ob) } }

noncomputable def allKnown [O : Orc] (τ : List SX) : List (SX × Bool) → Bool
  | [] => true
  | (e, b) :: l => (match look (subst τ e) with
    | some c => b == c
    | none => false) && allKnown τ l

noncomputable def runLoop [O : Orc] (L : LoopSp) (s : St) : Run :=
  match tauOf s L.src with
  | none => none
  | some τ => match Nat.beq s.n L.n && matchSt L.T τ s && allKnown τ L.pre with
    | false => none
    | true => match look (subst τ L.cnd) with
      | none => none
      | some b => match Tmpl.ok (L.pick b).2 L.T s.n with
        | false => none
        | true => some ((L.pick b).1, (L.pick b).2.outer τ s)

noncomputable abbrev noFacts (I : Nat → List DV → DV) : Orc := ⟨fun _ => none, I⟩

/-- WHAT A LOOP DOES, seen from a template. -/
def LoopOK (P : Program) (G : Nat → Option (List AV)) (I : Nat → List DV → DV) (body : Code) (L : LoopSp) : Prop :=
  ∀ (m : Env) (a : Act) (w : World) (Q : Exit → Act → World → Prop), (∀ id, m.dom id → namesIn L.T.ob id = true) → (∀ id, ¬ m.res id) → @RS (noFacts I) plainR m G (L.T.st L.n) a w →
    (∀ p ∈ L.pre, den m.R p.1 = .bool p.2) → ∀ b, den m.R L.cnd = .bool b →
    (∀ m' a' w', m.le m' → @RS (noFacts I) plainR m' G ((L.pick b).2.st L.n) a' w' → Q (exOf (L.pick b).1) a' w') → (Code.loop body).wp P Q a w

theorem noFacts_ok (R : Rho) : @FactsOK (noFacts R.I) R := ⟨rfl, fun e b hb => by cases hb⟩

theorem allKnown_sound [O : Orc] {R : Rho} (hF : FactsOK R) {τ : List SX} : ∀ {l : List (SX × Bool)}, allKnown τ l = true → ∀ p ∈ l, den (R.sub τ) p.1 = .bool p.2
  | (e, b) :: l, h, p, hp => by
    simp only [allKnown, Bool.and_eq_true] at h
    simp only [List.mem_cons] at hp
    rcases hp with rfl | hp
    · have h1 := h.1
      split at h1
      · rename_i c hc
        rw [← den_subst, look_den hF hc]
        rw [eq_of_beq h1]
      · cases h1
    · exact allKnown_sound hF h.2 p hp
  | [], _, p, hp => by simp at hp

/-- A loop that is taken by a contract. -/
theorem runLoop_sound [O : Orc] {P : Program} {G : Nat → Option (List AV)} {body : Code} {L : LoopSp} (hG : PlainG G) (hL : LoopOK P G O.I body L) {m : Env} {s s' : St} {e : Ex} {a : Act} {w : World} {Q : Exit → Act → World → Prop}
    (hr : RS m G s a w) (h : runLoop L s = some (e, s')) (hQ : ∀ m' a' w', m.le m' → RS m' G s' a' w' → Q (exOf e) a' w') : (Code.loop body).wp P Q a w := by
  unfold runLoop at h
  split at h <;> (try (cases h; done))
  rename_i τ hτ
  split at h <;> (try (cases h; done))
  rename_i hm
  simp only [Bool.and_eq_true, Nat.beq_eq] at hm
  obtain ⟨⟨hn, hm1⟩, hm2⟩ := hm
  have hm := And.intro hm1 hm2
  split at h <;> (try (cases h; done))
  rename_i b hb
  split at h <;> (try (cases h; done))
  rename_i hok
  simp only [Option.some.injEq, Prod.mk.injEq] at h
  obtain ⟨rfl, rfl⟩ := h
  simp only [Tmpl.ok, Bool.and_eq_true] at hok
  have hin := RS.into (O := O) (l2 := fun _ => none) (I2 := O.I) (τ := τ) hG hr hm.1 (by rw [← hr.g.f.1]; exact noFacts_ok (m.R.sub τ))
  rw [hn] at hin
  refine hL (m.inner (m.R.sub τ) L.T.ob w) a w Q (fun _ h => h) (fun _ h => h) hin (allKnown_sound hr.g.f hm.2) b ?_ ?_
  · show den (m.R.sub τ) L.cnd = _
    rw [← den_subst]
    exact look_den hr.g.f hb
  · intro m' a' w' hle hr'
    have hs : m'.sees (namesIn L.T.ob) { m with E := m'.E } := by
      refine ⟨fun id hid _ => ?_, fun _ _ h => h⟩
      obtain ⟨_, c, _, k1, _⟩ := matched_dom hr.h hm.1 hid
      exact ⟨(hr.h.obj id _ k1).1, (hle.mu id hid).symm⟩
    have hR : m'.R = ({ m with E := m'.E } : Env).R.sub τ := hle.R
    refine (fun g => hQ _ a' w' (And.left g) (And.right g)) (RS.outof (O := O) (tm := substTm τ (L.pick b).2.tm) (ob := substOb τ (L.pick b).2.ob) (l2 := fun _ => none) (I2 := O.I) hr hm.1 hle (by rw [hn]; exact hr') ?_ ?_ ?_)
    · intro t v hv
      rcases substTm_get (τ := τ) (n := s.n) (L.pick b).2.tm t with ⟨x, h1, h2, h3⟩ | ⟨_, h2, h3⟩
      · rw [h2, Option.getD_some] at hv
        rw [h3, Option.getD_some]
        exact subst_sound hs hR x v (okTm_get hok.1.1 h1).2 hv
      · rw [h2] at hv
        rw [h3]
        split
        · simp [V]
        · rename_i hlt
          rw [if_neg hlt] at hv
          simpa [V] using hv
    · intro i b' hb'
      rw [substOb_get] at hb'
      cases hc : (putOb .nil (L.pick b).2.ob).get i with
      | none => rw [hc] at hb'; cases hb'
      | some x =>
        obtain ⟨c, rfl⟩ := putOb_blk hc
        rw [hc] at hb'
        simp only [Option.map_some, Option.some.injEq, AObj.blk.injEq] at hb'
        subst hb'
        have hmem : (i, c) ∈ (L.pick b).2.ob := by
          rcases putOb_get .nil (L.pick b).2.ob i with ⟨d, h1, h2⟩ | ⟨_, h2⟩
          · rw [hc] at h2; cases h2; exact h1
          · rw [hc] at h2; simp at h2
        obtain ⟨k1, k2⟩ := okOb_get hok.1.2 hmem
        refine ⟨c, rfl, k1, fun p hp => hp.map fun j v hj hv => ?_⟩
        refine subst_sound hs hR _ v (okAVs_get k2 (i := j) ?_) hv
        rw [getElem?_cellsFrom c c.n 0 j hj, Nat.zero_add]
    · intro i hi
      obtain ⟨b0, hb0⟩ := namesIn_iff.1 hi
      obtain ⟨c, hc⟩ := namesIn_iff.1 (covers_get hok.2 hb0)
      rw [substOb_get]
      rcases putOb_get .nil (L.pick b).2.ob i with ⟨d, h1, h2⟩ | ⟨h1, h2⟩
      · rw [h2]; exact ⟨_, rfl⟩
      · exact absurd hc (h1 c)
end Go.AM
namespace Go.AM
open Go
variable [O : Orc]

/-- The loops of a text, without those inside loops. -/
noncomputable def loopsIn : Code → List Code
  | .seq a b => loopsIn a ++ loopsIn b
  | .cond _ a b => loopsIn a ++ loopsIn b
  | .block _ a => loopsIn a
  | .scope a => loopsIn a
  | .loop a => [a]
  | _ => []

/-- A text's first region. -/
noncomputable def key : Code → Nat
  | .region id _ _ => Nat.succ id
  | .seq a b => match key a with
    | 0 => key b
    | k => k
  | .cond _ a b => match key a with
    | 0 => key b
    | k => k
  | .block _ a => key a
  | .scope a => key a
  | .loop a => key a
  | _ => 0

section
variable {P : Program} {G : Nat → Option (List AV)} {call : CallF}

def LoopIt (P : Program) (G : Nat → Option (List AV)) (iter : Code → St → Run) (body : Code) : Prop :=
  ∀ (m : Env) (s s' : St) (e : Ex) (a : Act) (w : World) (Q : Exit → Act → World → Prop), RS m G s a w → iter body s = some (e, s') → (∀ m' a' w', m.le m' → RS m' G s' a' w' → Q (exOf e) a' w') → (Code.loop body).wp P Q a w

theorem code_soundL (hc : CallRK P G call) (hreg : RegionOK P G call) {iter : Code → St → Run} : ∀ (c : Code) (hit : ∀ body ∈ loopsIn c, LoopIt P G iter body) (m : Env) (s s' : St) (e : Ex) (a : Act) (w : World) (Q : Exit → Act → World → Prop),
    RS m G s a w → codeA P G call iter c s = some (e, s') → (∀ m' a' w', m.le m' → RS m' G s' a' w' → Q (exOf e) a' w') → c.wp P Q a w := by
  intro c
  induction c with
  | skip =>
    intro hit m s s' e a w Q hr h hQ
    simp only [codeA, Option.some.injEq, Prod.mk.injEq] at h
    obtain ⟨rfl, rfl⟩ := h
    exact wp_skip (hQ m a w (.refl m) hr)
  | label l =>
    intro hit m s s' e a w Q hr h hQ
    simp only [codeA, Option.some.injEq, Prod.mk.injEq] at h
    obtain ⟨rfl, rfl⟩ := h
    exact wp_label (hQ m a w (.refl m) hr)
  | exit id =>
    intro hit m s s' e a w Q hr h hQ
    simp only [codeA, Option.some.injEq, Prod.mk.injEq] at h
    obtain ⟨rfl, rfl⟩ := h
    exact wp_exit (hQ m a w (.refl m) hr)
  | ret =>
    intro hit m s s' e a w Q hr h hQ
    simp only [codeA, Option.some.injEq, Prod.mk.injEq] at h
    obtain ⟨rfl, rfl⟩ := h
    exact wp_ret (hQ m a w (.refl m) hr)
  | region id ops draw =>
    intro hit m s s' e a w Q hr h hQ
    cases draw with
    | false =>
      simp only [codeA] at h
      split at h
      · rename_i s1 hs
        simp only [Option.some.injEq, Prod.mk.injEq] at h
        obtain ⟨rfl, rfl⟩ := h
        exact wpIn_wide.1 (wpIn_region_list (ops_sound hc ops.toList m s s1 a w hr hs hQ))
      · cases h
    | true =>
      simp only [codeA] at h
      split at h
      · rename_i s1 hs
        simp only [Option.some.injEq, Prod.mk.injEq] at h
        obtain ⟨rfl, rfl⟩ := h
        exact wpIn_wide.1 (hreg id ops m s s1 a w Q hr hs hQ)
      · cases h
  | seq x y ihx ihy =>
    intro hit m s s' e a w Q hr h hQ
    simp only [codeA] at h
    split at h
    · rename_i s1 h1
      have hx := ihx fun B hB => hit B (by simp [loopsIn, hB])
      have hy := ihy fun B hB => hit B (by simp [loopsIn, hB])
      refine wp_seq (hx m s s1 .normal a w _ hr h1 fun m1 a1 w1 g1 r1 => ?_)
      exact hy m1 s1 s' e a1 w1 Q r1 h fun m2 a2 w2 g2 r2 => hQ m2 a2 w2 (g1.trans g2) r2
    · rename_i r hn
      have hx := ihx fun B hB => hit B (by simp [loopsIn, hB])
      refine wp_seq (hx m s s' e a w _ hr h fun m1 a1 w1 g1 r1 => ?_)
      have hq := hQ m1 a1 w1 g1 r1
      cases e with
      | normal => exact absurd h (fun e => hn s' e)
      | exit id => exact hq
      | ret => exact hq
  | cond c x y ihx ihy =>
    intro hit m s s' e a w Q hr h hQ
    simp only [codeA] at h
    have hv := resB_sound hr.g.f (hr.ev c)
    split at h
    · rename_i ec
      rw [ec] at hv
      simp only [V] at hv
      exact wp_cond_true hv (ihx (fun B hB => hit B (by simp [loopsIn, hB])) m s s' e a w Q hr h hQ)
    · rename_i ec
      rw [ec] at hv
      simp only [V] at hv
      exact wp_cond_false hv (ihy (fun B hB => hit B (by simp [loopsIn, hB])) m s s' e a w Q hr h hQ)
    · cases h
  | block id x ih =>
    intro hit m s s' e a w Q hr h hQ
    simp only [codeA] at h
    split at h
    · rename_i i s1 h1
      refine wp_block (ih (fun B hB => hit B (by simpa [loopsIn] using hB)) m s s1 (.exit i) a w _ hr h1 fun m1 a1 w1 g1 r1 => ?_)
      split at h
      · rename_i hb
        rw [Nat.beq_eq] at hb
        simp only [Option.some.injEq, Prod.mk.injEq] at h
        obtain ⟨rfl, rfl⟩ := h
        have hq := hQ m1 a1 w1 g1 r1
        simp only [exOf, Exit.inBlock, hb, if_true] at hq ⊢
        exact hq
      · rename_i hb
        have hne : i ≠ id := fun e => by rw [← Nat.beq_eq, hb] at e; cases e
        simp only [Option.some.injEq, Prod.mk.injEq] at h
        obtain ⟨rfl, rfl⟩ := h
        have hq := hQ m1 a1 w1 g1 r1
        simp only [exOf, Exit.inBlock, hne, if_false] at hq ⊢
        exact hq
    · rename_i r hn
      refine wp_block (ih (fun B hB => hit B (by simpa [loopsIn] using hB)) m s s' e a w _ hr h fun m1 a1 w1 g1 r1 => ?_)
      have hq := hQ m1 a1 w1 g1 r1
      cases e with
      | normal => exact hq
      | exit id => exact absurd h (fun e => hn _ s' e)
      | ret => exact hq
  | loop x ih =>
    intro hit m s s' e a w Q hr h hQ
    simp only [codeA] at h
    exact hit x (by simp [loopsIn]) m s s' e a w Q hr h hQ
  | scope x ih =>
    intro hit m s s' e a w Q hr h hQ
    simp only [codeA] at h
    exact wp_scope_straight (ih (fun B hB => hit B (by simpa [loopsIn] using hB)) m s s' e a w _ hr h fun m1 a1 w1 g1 r1 => by
      have hq := hQ m1 a1 w1 g1 r1
      cases e <;> exact hq)
  | rangeFunc g ps asg body _ _ =>
    intro hit m s s' e a w Q hr h hQ
    simp only [codeA] at h
    exact wpIn_wide.1 (range_sound hc hr (hr.ev g) h hQ)
  | _ => intro hit m s s' e a w Q hr h hQ; simp [codeA] at h

end

section
variable (P : Program) (G : Nat → Option (List AV)) (spec : FuncId → Option (List AV → AHeap → Out)) (n : Nat) (lps : Nat → Option LoopSp)

noncomputable def callsL : CallF := fun f args h => match spec f with
  | some sp => sp args h
  | none => enterR P (runA P G spec n) (codeD P G (runA P G spec n)) f args h
noncomputable def iterL (a : Code) (s : St) : Run := match lps (key a) with
  | some L => runLoop L s
  | none => runA P G spec n (.loop a) s
noncomputable def codeL (c : Code) (s : St) : Run := codeA P G (callsL P G spec n) (iterL P G spec n lps) c s
noncomputable def callL (f : FuncId) (args : List AV) (h : AHeap) : Out := enterA P (codeL P G spec n lps) noRun f args h
end

section
variable {P : Program} {G : Nat → Option (List AV)} {spec : FuncId → Option (List AV → AHeap → Out)} {lps : Nat → Option LoopSp}

/-- The loops of a text that have contracts. -/
def LoopsOK (P : Program) (G : Nat → Option (List AV)) (I : Nat → List DV → DV) (lps : Nat → Option LoopSp) (c : Code) : Prop := ∀ B ∈ loopsIn c, ∀ L, lps (key B) = some L → LoopOK P G I B L

theorem callsL_ok (hm : P.follows .mixedOrders = true) (hN : ∀ (f : FuncId) (fn : Func), P.funcs[f]? = some fn → (fn.name == "runtime.NumGoroutine") = false) (hsp : SpecOK P G spec) (n : Nat) : CallRK P G (callsL P G spec n) := by
  intro f args h av h' hcall
  have hrun : RunOK P G (runA P G spec n) := fun R c m s s' e a w Q hr h hQ => (run_sound hN hsp (fun _ _ h => draw_sound hm h) n R c m s s' e a w Q hr h hQ).1
  unfold callsL at hcall
  cases hf : spec f with
  | none =>
    simp only [hf] at hcall
    unfold enterR at hcall
    split at hcall
    · rename_i hy
      exact .inr ⟨Nat.eq_of_beq_eq_true hy, round_sound hrun h hcall⟩
    · exact .inl (enter_sound hN hrun.zero (codeD_sound hrun.zero) f args h av h' hcall)
  | some sp =>
    simp only [hf] at hcall
    exact .inl (hsp f sp hf f args h av h' (by simp only [if_true]; exact hcall))

theorem codeL_sound (hm : P.follows .mixedOrders = true) (hN : ∀ (f : FuncId) (fn : Func), P.funcs[f]? = some fn → (fn.name == "runtime.NumGoroutine") = false) (hsp : SpecOK P G spec) (hG : PlainG G) (n : Nat) {c : Code} (hl : LoopsOK P G O.I lps c)
    (m : Env) (s s' : St) (e : Ex) (a : Act) (w : World) (Q : Exit → Act → World → Prop) (hr : RS m G s a w) (h : codeL P G spec n lps c s = some (e, s')) (hQ : ∀ m' a' w', m.le m' → RS m' G s' a' w' → Q (exOf e) a' w') : c.wp P Q a w := by
  have hc := callsL_ok hm hN hsp n
  refine code_soundL hc (draw_sound hm hc) c (fun B hB => ?_) m s s' e a w Q hr h hQ
  intro m s s' e a w Q hr h hQ
  unfold iterL at h
  split at h
  · rename_i L hL
    exact runLoop_sound hG (hl B hB L hL) hr h hQ
  · exact wpIn_wide.1 (run_sound hN hsp (fun _ _ h => draw_sound hm h) n plainR (.loop B) m s s' e a w Q hr h hQ).1

open Classical in
/-- A CALL OF A FUNCTION WHOSE LOOPS ARE TAKEN BY CONTRACTS. -/
theorem callL_ok (hm : P.follows .mixedOrders = true) (hN : ∀ (f : FuncId) (fn : Func), P.funcs[f]? = some fn → (fn.name == "runtime.NumGoroutine") = false) (hsp : SpecOK P G spec) (hG : PlainG G) (n : Nat) (f : FuncId)
    (hl : ∀ fn c, P.funcs[f]? = some fn → fn.body = some c → LoopsOK P G O.I lps c) : CallOK P G (fun g args h => if g = f then callL P G spec n lps f args h else none) := by
  intro g args h av h' hcall
  simp only at hcall
  split at hcall
  · rename_i e
    subst e
    let run : Code → St → Run := fun c s => if ∃ fn, P.funcs[g]? = some fn ∧ fn.body = some c then codeL P G spec n lps c s else none
    refine enter_sound (run := run) hN ?_ noRun_ok g args h av h' ?_
    · intro c m s s' e a w Q hr h hQ
      by_cases hc : ∃ fn, P.funcs[g]? = some fn ∧ fn.body = some c
      · have h' : codeL P G spec n lps c s = some (e, s') := by simpa only [run, if_pos hc] using h
        obtain ⟨fn, h1, h2⟩ := hc
        exact codeL_sound hm hN hsp hG n (hl fn c h1 h2) m s s' e a w Q hr h' hQ
      · simp only [run, if_neg hc] at h
        cases h
    · unfold callL at hcall
      simp only [enterA] at hcall ⊢
      split at hcall
      · cases hcall
      · split at hcall
        · cases hcall
        · rename_i fn hf
          unfold enterB at hcall ⊢
          split at hcall
          · cases hcall
          · rename_i c hb
            have : run c = codeL P G spec n lps c := by
              funext s
              simp only [run]
              rw [if_pos ⟨fn, hf, hb⟩]
            simp only [hb, this]
            exact hcall
  · cases hcall
end
end Go.AM
namespace Go.AM
open Go

section
variable {P : Program} {G : Nat → Option (List AV)} {I : Nat → List DV → DV}

/-- A template with names put in. -/
noncomputable def Tmpl.sub (T : Tmpl) (τ : List SX) : Tmpl := ⟨substTm τ T.tm, substOb τ T.ob⟩

theorem sub_nil (R : Rho) : R.sub [] = R := rfl

theorem le_inner {m m1 : Env} {h : AHeap} {w1 : World} {ob : List (Nat × Blk)} {R' : Rho} (hr : HR m1 h w1) (hle : m.le m1) (hown : ∀ id, namesIn ob id = true → ∃ o, h.t.get id = some o) (hdom : ∀ id, m.dom id → namesIn ob id = true) (hres : ∀ id, ¬ m.res id) :
    m.le { m1.inner R' ob w1 with R := m.R } := by
  refine ⟨⟨hdom, fun id hd => hle.mu id hd, fun b o e => hle.E b o e, rfl, hle.io⟩, fun b x hb => ?_, fun id h => (hres id h).elim⟩
  have h1 := hle.F b x hb
  simp only [Env.inner]
  rw [if_pos, hr.F b x h1]
  refine ⟨hr.EF b x h1, ?_⟩
  rintro ⟨id, hid, rfl⟩
  obtain ⟨o, ho⟩ := hown id hid
  have := (hr.obj id o ho).2.1.2
  rw [this] at h1
  cases h1

theorem le_swap {m m1 m2 : Env} (h1 : m.le { m1 with R := m.R }) (h2 : m1.le m2) : m.le { m2 with R := m.R } :=
  ⟨⟨fun id h => h2.dom id (h1.dom id h), fun id h => (h2.mu id (h1.dom id h)).trans (h1.mu id h), fun b o e => h2.E b o (h1.E b o e), rfl, h2.io.trans h1.io⟩, fun b o e => h2.F b o (h1.F b o e), fun id h => h2.res id (h1.res id h)⟩

theorem sxsTm_mem : ∀ {l : List (Nat × AV)} {t : Nat} {a : AV} {e : SX}, (t, a) ∈ l → e ∈ sxs a → e ∈ sxsTm l
  | (u, b) :: l, t, a, e, h, he => by
    simp only [List.mem_cons, Prod.mk.injEq] at h
    simp only [sxsTm, List.mem_append]
    rcases h with ⟨rfl, rfl⟩ | h
    · exact .inl he
    · exact .inr (sxsTm_mem h he)
theorem sxsOb_mem : ∀ {l : List (Nat × Blk)} {i : Nat} {b : Blk} {e : SX}, (i, b) ∈ l → e ∈ sxs.sxss (b.cellsFrom 0 b.n) → e ∈ sxsOb l
  | (j, c) :: l, i, b, e, h, he => by
    simp only [List.mem_cons, Prod.mk.injEq] at h
    simp only [sxsOb, List.mem_append]
    rcases h with ⟨rfl, rfl⟩ | h
    · exact .inl he
    · exact .inr (sxsOb_mem h he)

mutual
theorem okAV_true {nm : Nat → Bool} : ∀ (a : AV), okAV nm a = true → okAV (fun _ => true) a = true := by
  intro a h
  unfold okAV at h
  split at h <;> (try (cases h; done)) <;> (try rfl)
  · simp only [okAV]; exact okAVs_true _ h
  · simp only [okAV]; exact okAVs_true _ h
theorem okAVs_true {nm : Nat → Bool} : ∀ (as : List AV), okAV.okAVs nm as = true → okAV.okAVs (fun _ => true) as = true
  | [], _ => rfl
  | a :: as, h => by
    simp only [okAV.okAVs, Bool.and_eq_true] at h ⊢
    exact ⟨okAV_true a h.1, okAVs_true as h.2⟩
end

/-- A state that is a template's, under other variables that give its names the same data. -/
theorem RS.reR {m : Env} {R : Rho} {T T' : Tmpl} {n : Nat} {a : Act} {w : World} (hr : @RS (noFacts I) plainR m G (T'.st n) a w) (hok : T'.ok T n = true) (hR : R.I = I) (he : ∀ e ∈ T'.sxs, den m.R e = den R e) (hG : PlainG G) :
    @RS (noFacts I) plainR { m with R := R } G (T'.st n) a w := by
  simp only [Tmpl.ok, Bool.and_eq_true] at hok
  obtain ⟨z1, z2, z3, zr, z4, z5, _⟩ := hr
  refine @RS.mk (noFacts I) plainR _ _ _ _ _ z1 (fun t => ?_) z3 zr ⟨z4.next, z4.lim, z4.res, z4.EF, z4.E, z4.F, fun id o ho => ?_, z4.inj, z4.io⟩ (@GOK.mk (noFacts I) _ _ (fun g cs e => ?_) (by rw [← hR]; exact noFacts_ok R))
  · have := z2 t
    simp only [Tmpl.st] at this ⊢
    rcases mkTm_get n T'.tm t with ⟨x, h1, h2⟩ | ⟨_, h2⟩
    · rw [h2, Option.getD_some] at this ⊢
      exact reR_sound x _ (okAV_true x (okTm_get hok.1.1 h1).2) (fun e h => he e (by simp only [Tmpl.sxs, List.mem_append]; exact .inl (sxsTm_mem h1 h))) this
    · rw [h2] at this ⊢
      by_cases ht : t < n
      · rw [if_pos ht]; simp [V]
      · rw [if_neg ht] at this ⊢
        simpa [V] using this
  · obtain ⟨g1, g2, g3⟩ := z4.obj id o ho
    refine ⟨g1, g2, ?_⟩
    have ho' : (putOb .nil T'.ob).get id = some o := ho
    rcases putOb_get .nil T'.ob id with ⟨b, h1, h2⟩ | ⟨_, h2⟩
    · rw [h2] at ho'
      cases ho'
      obtain ⟨c, k1, k2, k3, k4⟩ := g3
      refine ⟨c, k1, k2, fun i hi => ?_, k4⟩
      obtain ⟨v, l1, l2⟩ := k3 i hi
      have hget : (b.cellsFrom 0 b.n)[i]? = some (b.cell i) := by rw [getElem?_cellsFrom b b.n 0 i hi, Nat.zero_add]
      exact ⟨v, l1, reR_sound _ v (okAV_true _ (okAVs_get (okOb_get hok.1.2 h1).2 hget)) (fun e h => he e (by simp only [Tmpl.sxs, List.mem_append]; exact .inr (sxsOb_mem h1 (sxss_get hget h)))) l2⟩
    · rw [h2] at ho'
      simp at ho'
  · have := z5 g cs e
    have hp := hG g cs e
    have key : ∀ (cs : List AV) (o : Nat), (∀ c ∈ cs, ∃ u, c = AV.sc u) → VC m g o cs → VC { m with R := R } g o cs := by
      intro cs
      induction cs with
      | nil => intro o _ _; simp [VC]
      | cons c cs ih =>
        intro o hp hv
        simp only [VC] at hv ⊢
        obtain ⟨⟨v, h1, h2⟩, h3⟩ := hv
        obtain ⟨u, rfl⟩ := hp c (by simp)
        exact ⟨⟨v, h1, by simpa [V] using h2⟩, ih _ (fun c hc => hp c (List.mem_cons_of_mem _ hc)) h3⟩
    exact key cs 0 hp this

theorem sub_eq {R : Rho} {σ τ : List SX} (h : ∀ j, den R (σ.getD j (.v j)) = den R (τ.getD j (.v j))) : R.sub σ = R.sub τ := by
  unfold Rho.sub
  congr 1
  funext j
  exact h j

theorem topN_subst (τ : List SX) : ∀ ob : List (Nat × Blk), topN (substOb τ ob) = topN ob
  | [] => rfl
  | (i, b) :: l => by
    show Nat.succ i + topN (substOb τ l) = Nat.succ i + topN l
    rw [topN_subst τ l]
theorem RS.unsub {m : Env} {R : Rho} {T T' : Tmpl} {τ : List SX} {n : Nat} {a : Act} {w : World} (hr : @RS (noFacts I) plainR m G (T'.st n) a w) (hok : T'.ok T n = true) (hR : R.I = I) (he : m.R = R.sub τ) (hG : PlainG G) :
    @RS (noFacts I) plainR { m with R := R } G ((T'.sub τ).st n) a w := by
  simp only [Tmpl.ok, Bool.and_eq_true] at hok
  obtain ⟨z1, z2, z3, zr, z4, z5, _⟩ := hr
  have hs : m.sees (fun _ => true) { m with R := R } := ⟨fun _ _ h => ⟨h, rfl⟩, fun _ _ h => h⟩
  have hN : ((T'.sub τ).st n).h.next = (T'.st n).h.next := topN_subst τ T'.ob
  have hN2 : ((T'.sub τ).st n).h.lim = (T'.st n).h.lim := congrArg Nat.succ (topN_subst τ T'.ob)
  refine @RS.mk (noFacts I) plainR _ _ _ _ _ z1 (fun t => ?_) z3 zr ⟨fun id h => by rw [hN, hN2]; exact z4.next id h, by rw [hN, hN2]; exact z4.lim, fun id h => by rw [hN, hN2]; exact z4.res id h, z4.EF, z4.E, z4.F, fun id o ho => ?_, fun i j x y hi hj e => ?_, z4.io⟩ (@GOK.mk (noFacts I) _ _ (fun g cs e => ?_) (by rw [← hR]; exact noFacts_ok R))
  · have := z2 t
    simp only [Tmpl.st, Tmpl.sub] at this ⊢
    rcases substTm_get (τ := τ) (n := n) T'.tm t with ⟨x, h1, h2, h3⟩ | ⟨_, h2, h3⟩
    · rw [h2, Option.getD_some] at this
      rw [h3, Option.getD_some]
      exact subst_sound hs he x _ (okAV_true x (okTm_get hok.1.1 h1).2) this
    · rw [h2] at this
      rw [h3]
      by_cases ht : t < n
      · rw [if_pos ht]; simp [V]
      · rw [if_neg ht] at this ⊢
        simpa [V] using this
  · have ho' : (putOb .nil (substOb τ T'.ob)).get id = some o := ho
    rw [substOb_get] at ho'
    cases hc : (putOb .nil T'.ob).get id with
    | none => rw [hc] at ho'; cases ho'
    | some x =>
      obtain ⟨b, rfl⟩ := putOb_blk hc
      rw [hc] at ho'
      simp only [Option.map_some, Option.some.injEq] at ho'
      subst ho'
      obtain ⟨g1, g2, g3⟩ := z4.obj id _ hc
      have hmem : (id, b) ∈ T'.ob := by
        rcases putOb_get .nil T'.ob id with ⟨d, h1, h2⟩ | ⟨_, h2⟩
        · rw [hc] at h2; cases h2; exact h1
        · rw [hc] at h2; simp at h2
      refine ⟨g1, g2, BR.map g3 fun i v hi hv => ?_⟩
      have hget : (b.cellsFrom 0 b.n)[i]? = some (b.cell i) := by rw [getElem?_cellsFrom b b.n 0 i hi, Nat.zero_add]
      exact subst_sound hs he _ v (okAV_true _ (okAVs_get (okOb_get hok.1.2 hmem).2 hget)) hv
  · have get : ∀ i x, ((T'.sub τ).st n).h.t.get i = some x → ∃ y, (T'.st n).h.t.get i = some y := by
      intro i x hx
      have hx' : (putOb .nil (substOb τ T'.ob)).get i = some x := hx
      rw [substOb_get] at hx'
      cases hc : (putOb .nil T'.ob).get i with
      | none => rw [hc] at hx'; cases hx'
      | some y => exact ⟨y, hc⟩
    obtain ⟨x', hx⟩ := get i x hi
    obtain ⟨y', hy⟩ := get j y hj
    exact z4.inj i j x' y' hx hy e
  · have := z5 g cs e
    have hp := hG g cs e
    have key : ∀ (cs : List AV) (o : Nat), (∀ c ∈ cs, ∃ u, c = AV.sc u) → VC m g o cs → VC { m with R := R } g o cs := by
      intro cs
      induction cs with
      | nil => intro o _ _; simp [VC]
      | cons c cs ih =>
        intro o hp hv
        simp only [VC] at hv ⊢
        obtain ⟨⟨v, h1, h2⟩, h3⟩ := hv
        obtain ⟨u, rfl⟩ := hp c (by simp)
        exact ⟨⟨v, h1, by simpa [V] using h2⟩, ih _ (fun c hc => hp c (List.mem_cons_of_mem _ hc)) h3⟩
    exact key cs 0 hp this

/-- One round. -/
def StepOK (I : Nat → List DV → DV) (run : List (SX × Bool) → St → Run) (L : LoopSp) (inv : Rho → Prop) (μ : Rho → Nat) (R : Rho) : Prop :=
  ∃ facts : List (SX × Bool), (∀ p ∈ facts, den R p.1 = .bool p.2) ∧ ∃ e s1, run facts (L.T.st L.n) = some (e, s1) ∧
    ((∃ b T' outs τ, den R L.cnd = .bool b ∧ L.pick b = (e, T'.sub outs) ∧ e ≠ .normal ∧ (Nat.beq s1.n L.n && matchSt T' τ s1 && covers T'.ob L.T.ob && T'.ok L.T L.n) = true ∧ ∀ j, den R (outs.getD j (.v j)) = den R (τ.getD j (.v j))) ∨
     (e = .normal ∧ ∃ τ, Nat.beq s1.n L.n = true ∧ matchSt L.T τ s1 = true ∧ inv (R.sub τ) ∧ μ (R.sub τ) < μ R ∧ den (R.sub τ) L.cnd = den R L.cnd ∧ ∀ b, den R L.cnd = .bool b → ∀ x ∈ (L.pick b).2.sxs, den (R.sub τ) x = den R x))

variable {spec : Orc → FuncId → Option (List AV → AHeap → Out)} {lps : Nat → Option LoopSp}

/-- A LOOP's CONTRACT, by its rounds. -/
theorem loop_ind (hm : P.follows .mixedOrders = true) (hN : ∀ (f : FuncId) (fn : Func), P.funcs[f]? = some fn → (fn.name == "runtime.NumGoroutine") = false) (hsp : ∀ O : Orc, O.I = I → @SpecOK O P G (spec O)) (hG : PlainG G) (n : Nat) {B : Code} {L : LoopSp}
    (hl : LoopsOK P G I lps B) (hok : (L.yes.2.ok L.T L.n && L.no.2.ok L.T L.n) = true) (inv : Rho → Prop) (μ : Rho → Nat)
    (init : ∀ m a w, @RS (noFacts I) plainR m G (L.T.st L.n) a w → (∀ p ∈ L.pre, den m.R p.1 = .bool p.2) → inv m.R)
    (step : ∀ R, R.I = I → inv R → StepOK I (fun facts s => @codeL (mkO facts I) P G (spec (mkO facts I)) n lps B s) L inv μ R) : LoopOK P G I B L := by
  have hok' : ∀ b, (L.pick b).2.ok L.T L.n = true := by
    simp only [Bool.and_eq_true] at hok
    intro b
    cases b
    · exact hok.2
    · exact hok.1
  have main : ∀ (N : Nat) (m : Env) (a : Act) (w : World) (Q : Exit → Act → World → Prop), inv m.R → μ m.R < N → (∀ id, m.dom id → namesIn L.T.ob id = true) → (∀ id, ¬ m.res id) → @RS (noFacts I) plainR m G (L.T.st L.n) a w → ∀ b, den m.R L.cnd = .bool b →
      (∀ m' a' w', m.le m' → @RS (noFacts I) plainR m' G ((L.pick b).2.st L.n) a' w' → Q (exOf (L.pick b).1) a' w') → Code.rounds P B Q N a w := by
    intro N
    induction N with
    | zero => intro m a w Q _ h; omega
    | succ N ih =>
      intro m a w Q hinv hμ hdom hres hr b hb hQ
      rw [rounds_succ]
      have hRI : m.R.I = I := by obtain ⟨_, _, _, _, _, _, y, _⟩ := hr; exact y
      obtain ⟨facts, hf, e, s1, hrun, hcase⟩ := step m.R hRI hinv
      obtain ⟨z1, z2, z3, zr, z4, z5, _⟩ := hr
      have hr2 : @RS (mkO facts I) plainR m G (L.T.st L.n) a w := @RS.mk (mkO facts I) plainR _ _ _ _ _ z1 z2 z3 zr z4 (@GOK.mk (mkO facts I) _ _ z5 (mkO_ok hRI hf))
      refine @codeL_sound (mkO facts I) P G (spec (mkO facts I)) lps hm hN (hsp _ rfl) hG n B hl m _ s1 e a w _ hr2 hrun ?_
      intro m1 a1 w1 hle hr1
      have hr1h : HR m1 s1.h w1 := by obtain ⟨_, _, _, _, y, _⟩ := hr1; exact y
      rcases hcase with ⟨b', T', outs, τ, hb', hpick, hne, hex, hden⟩ | ⟨rfl, τ, hn, hmt, hinv', hμ', hc, hxs⟩
      · rw [hb] at hb'
        cases hb'
        simp only [Bool.and_eq_true, Nat.beq_eq] at hex
        obtain ⟨⟨⟨h1, h2⟩, h3⟩, h4⟩ := hex
        have hgo : Q (exOf e) a1 w1 := by
          have hin := @RS.into (mkO facts I) G m1 s1 a1 w1 T' τ (fun _ => none) I hG hr1 h2 (by
            rw [hle.R]
            have := noFacts_ok (m.R.sub τ)
            rw [show (m.R.sub τ).I = I from hRI] at this
            exact this)
          rw [h1] at hin
          have hun := RS.unsub (R := m.R) (τ := outs) (T := L.T) hin h4 hRI (by show m1.R.sub τ = m.R.sub outs; rw [hle.R, sub_eq hden]) hG
          have hle2 := le_inner (R' := m1.R.sub τ) hr1h hle (ob := T'.ob) (fun id hid => by obtain ⟨_, c, _, k, _⟩ := matched_dom (O := (mkO facts I)) hr1h h2 hid; exact ⟨_, k⟩) (fun id hd => by
            obtain ⟨b0, h0⟩ := namesIn_iff.1 (hdom id hd)
            exact covers_get h3 h0) hres
          rw [hpick] at hQ
          exact hQ _ a1 w1 hle2 hun
        cases e with
        | normal => exact absurd rfl hne
        | exit id => exact hgo
        | ret => exact hgo
      · show Code.rounds P B Q N a1 w1
        rw [Nat.beq_eq] at hn
        have hRe : m1.R.sub τ = m.R.sub τ := by rw [hle.R]
        have hin := @RS.into (mkO facts I) G m1 s1 a1 w1 L.T τ (fun _ => none) I hG hr1 hmt (by
          rw [hRe]
          have := noFacts_ok (m.R.sub τ)
          rw [show (m.R.sub τ).I = I from hRI] at this
          exact this)
        rw [hn, hRe] at hin
        have hlin := le_inner (R' := m.R.sub τ) hr1h hle (ob := L.T.ob) (fun id hid => by obtain ⟨_, c, _, k, _⟩ := matched_dom (O := (mkO facts I)) hr1h hmt hid; exact ⟨_, k⟩) hdom hres
        refine ih (m1.inner (m.R.sub τ) L.T.ob w1) a1 w1 Q hinv' (by show μ (m.R.sub τ) < N; omega) (fun _ h => h) (fun _ h => h) hin b (by show den (m.R.sub τ) L.cnd = _; rw [hc, hb]) ?_
        intro m' a' w' hle' hr'
        refine hQ { m' with R := m.R } a' w' (le_swap hlin hle') (RS.reR hr' (hok' b) hRI (fun x hx => ?_) hG)
        rw [hle'.R]
        exact hxs b hb x hx
  intro m a w Q hdom hres hr hpre b hb hQ
  exact wp_loop_rounds _ (main (μ m.R + 1) m a w Q (init m a w hr hpre) (Nat.lt_succ_self _) hdom hres hr b hb hQ)

/-- Leaves of a round. -/
noncomputable def eqEx : Ex → Ex → Bool
  | .exit a, .exit b => Nat.beq a b
  | .ret, .ret => true
  | _, _ => false
theorem eqEx_eq {a b : Ex} (h : eqEx a b = true) : a = b ∧ a ≠ .normal := by
  unfold eqEx at h
  split at h
  · rw [Nat.beq_eq] at h; exact ⟨by rw [h], by simp⟩
  · exact ⟨rfl, by simp⟩
  · cases h
noncomputable def stepExit (L : LoopSp) (T' : Tmpl) (e : Ex) (τ : List SX) (o : Run) : Bool :=
  match o with
  | some (e', s1) => eqEx e' e && (Nat.beq s1.n L.n && matchSt T' τ s1 && covers T'.ob L.T.ob && T'.ok L.T L.n)
  | none => false
noncomputable def stepNext (L : LoopSp) (τ : List SX) (o : Run) : Bool :=
  match o with
  | some (.normal, s1) => Nat.beq s1.n L.n && matchSt L.T τ s1
  | _ => false
theorem StepOK.exit {run : List (SX × Bool) → St → Run} {L : LoopSp} {inv : Rho → Prop} {μ : Rho → Nat} {R : Rho} {T' : Tmpl} {e : Ex} {outs τ : List SX} {b : Bool} (facts : List (SX × Bool)) (hc : stepExit L T' e τ (run facts (L.T.st L.n)) = true)
    (hf : ∀ p ∈ facts, den R p.1 = .bool p.2) (hb : den R L.cnd = .bool b) (hp : L.pick b = (e, T'.sub outs)) (hd : ∀ j, den R (outs.getD j (.v j)) = den R (τ.getD j (.v j))) : StepOK I run L inv μ R := by
  unfold stepExit at hc
  split at hc
  · rename_i e' s1 hrun
    rw [Bool.and_eq_true] at hc
    obtain ⟨rfl, hne⟩ := eqEx_eq hc.1
    exact ⟨facts, hf, e', s1, hrun, .inl ⟨b, T', outs, τ, hb, hp, hne, hc.2, hd⟩⟩
  · cases hc
theorem StepOK.next {run : List (SX × Bool) → St → Run} {L : LoopSp} {inv : Rho → Prop} {μ : Rho → Nat} {R : Rho} (τ : List SX) (facts : List (SX × Bool)) (hc : stepNext L τ (run facts (L.T.st L.n)) = true)
    (hf : ∀ p ∈ facts, den R p.1 = .bool p.2) (hi : inv (R.sub τ)) (hμ : μ (R.sub τ) < μ R) (hcnd : den (R.sub τ) L.cnd = den R L.cnd) (hx : ∀ b, den R L.cnd = .bool b → ∀ x ∈ (L.pick b).2.sxs, den (R.sub τ) x = den R x) : StepOK I run L inv μ R := by
  unfold stepNext at hc
  split at hc
  · rename_i s1 hrun
    rw [Bool.and_eq_true] at hc
    exact ⟨facts, hf, .normal, s1, hrun, .inr ⟨rfl, τ, hc.1, hc.2, hi, hμ, hcnd, hx⟩⟩
  · cases hc
end
end Go.AM
